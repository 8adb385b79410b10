/- Several texts in one: RdA RdB RdC RdD RdL FormB. -/
import Derived.Test.YtefaapcekbgjoaaMintK
import Derived.Test.YtefaapcekbgjoaaRegK
import Derived.Test.YtefaapcekbgjoaaBaseK
import Derived.Laws.Bits64b
import Derived.Defers
import Derived.Recover
import Derived.Lib.Builder
import Derived.Test.YtefaapcekbgjoaaRefK
namespace Go.Proofs.Ytefaapcekbgjoaa

section
/- A Reader of mint: what it holds; the contracts of Fail, take. -/
open Go.RowKit

/-- A Reader at g of the bytes bs that lie at A. -/
structure Rd (w : World) (g : Nat) (A : Option Addr) (c : Nat) (bs : List UInt8) (at_ : Nat) (over : Bool) (f : Int) : Prop where
  blk : Blk w g 105 #[.slice A bs.length c, .int .i64 (at_ : Int), .bool over, .int .i64 f]
  rv : RV w A (bs.map bv)
  ne : ∀ b o, A = some ⟨b, o, none⟩ → b ≠ g
  cap : bs.length ≤ c ∧ c ≤ maxLen ∧ (A = none → bs.length = 0 ∧ c = 0)
  le : at_ ≤ bs.length
def endedE (g : Nat) : PanicEntry := { v := .iface 107 (.agg #[.pointer (some ⟨g, 0, none⟩)]), recovered := false }
theorem Rd.c0 {w : World} {g c at_ : Nat} {A : Option Addr} {bs : List UInt8} {o : Bool} {f : Int} (h : Rd w g A c bs at_ o f) : w.cell? ⟨g, 0, none⟩ = some (.slice A bs.length c) := by rw [h.blk.cell]; rfl
theorem Rd.c1 {w : World} {g c at_ : Nat} {A : Option Addr} {bs : List UInt8} {o : Bool} {f : Int} (h : Rd w g A c bs at_ o f) : w.cell? ⟨g, 1, none⟩ = some (.int .i64 (at_ : Int)) := by rw [h.blk.cell]; rfl
theorem Rd.c2 {w : World} {g c at_ : Nat} {A : Option Addr} {bs : List UInt8} {o : Bool} {f : Int} (h : Rd w g A c bs at_ o f) : w.cell? ⟨g, 2, none⟩ = some (.bool o) := by rw [h.blk.cell]; rfl
theorem Rd.c3 {w : World} {g c at_ : Nat} {A : Option Addr} {bs : List UInt8} {o : Bool} {f : Int} (h : Rd w g A c bs at_ o f) : w.cell? ⟨g, 3, none⟩ = some (.int .i64 f) := by rw [h.blk.cell]; rfl
theorem Rd.below {w w' : World} {g c at_ : Nat} {A : Option Addr} {bs : List UInt8} {o : Bool} {f : Int} (h : Rd w g A c bs at_ o f) (hb : Below w.heap.size w w') : Rd w' g A c bs at_ o f :=
  ⟨h.blk.below hb h.blk.lt, h.rv.below hb, h.ne, h.cap, h.le⟩
theorem Rd.drewN {w : World} {g c at_ : Nat} {A : Option Addr} {bs : List UInt8} {o : Bool} {f : Int} (h : Rd w g A c bs at_ o f) (n : Nat) : Rd (w.drewN n) g A c bs at_ o f := h.below (below_drewN (Below.refl _ _) n)
theorem Rd.only {S : Nat → Prop} {w w' : World} {g c at_ : Nat} {A : Option Addr} {bs : List UInt8} {o : Bool} {f : Int} (h : Rd w g A c bs at_ o f) (ho : Only S w w') (hg : ¬ S g) (hA : ∀ b o, A = some ⟨b, o, none⟩ → ¬ S b) : Rd w' g A c bs at_ o f :=
  ⟨h.blk.only ho hg, h.rv.only ho fun _ b o e => hA b o e, h.ne, h.cap, h.le⟩
theorem Only.drewN {S : Nat → Prop} {a b : World} (h : Only S a b) (n : Nat) : Only S a (b.drewN n) := ⟨h.os, h.tape, h.output, h.size, h.block⟩
theorem Rd.setAt {w : World} {g c at_ : Nat} {A : Option Addr} {bs : List UInt8} {o : Bool} {f : Int} (h : Rd w g A c bs at_ o f) (k : Nat) (hk : k ≤ bs.length) : Rd (w.setCell ⟨g, 1, none⟩ (.int .i64 (k : Int))) g A c bs k o f :=
  ⟨Blk.setL (cs := [.slice A bs.length c, .int .i64 (at_ : Int), .bool o, .int .i64 f]) h.blk 1 _, h.rv.only ((Only.refl (fun b => b = g) w).setCell (p := ⟨g, 1, none⟩) (.inl rfl) _) fun _ b o e => h.ne b o e, h.ne, h.cap, hk⟩
theorem Rd.setF {w : World} {g c at_ : Nat} {A : Option Addr} {bs : List UInt8} {o : Bool} {f : Int} (h : Rd w g A c bs at_ o f) (k : Int) : Rd (w.setCell ⟨g, 3, none⟩ (.int .i64 k)) g A c bs at_ o k :=
  ⟨Blk.setL (cs := [.slice A bs.length c, .int .i64 (at_ : Int), .bool o, .int .i64 f]) h.blk 3 _, h.rv.only ((Only.refl (fun b => b = g) w).setCell (p := ⟨g, 3, none⟩) (.inl rfl) _) fun _ b o e => h.ne b o e, h.ne, h.cap, h.le⟩
theorem Rd.setO {w : World} {g c at_ : Nat} {A : Option Addr} {bs : List UInt8} {o : Bool} {f : Int} (h : Rd w g A c bs at_ o f) (k : Bool) : Rd (w.setCell ⟨g, 2, none⟩ (.bool k)) g A c bs at_ k f :=
  ⟨Blk.setL (cs := [.slice A bs.length c, .int .i64 (at_ : Int), .bool o, .int .i64 f]) h.blk 2 _, h.rv.only ((Only.refl (fun b => b = g) w).setCell (p := ⟨g, 2, none⟩) (.inl rfl) _) fun _ b o e => h.ne b o e, h.ne, h.cap, h.le⟩

/-- What a call that meets a fault does. -/
def Fell (w : World) (g : Nat) (A : Option Addr) (c : Nat) (bs : List UInt8) (f : Int) (e : Ending) (w' : World) : Prop :=
  e = .panicked [endedE g] ∧ (∃ at_, Rd w' g A c bs at_ true f) ∧ Only (fun b => b = g) w w'
theorem fail_any (g c at_ : Nat) (A : Option Addr) (bs : List UInt8) (f : Int) (hf : f ≠ 0) (w : World) (h : Rd w g A c bs at_ false 0) :
    Calls Try.prog 41 #[.pointer (some ⟨g, 0, none⟩), .int .i64 f] w (Fell w g A c bs f) := by
  have h2 := h.c2
  have h3 := h.c3
  have f2 := h.blk.frozen 2
  have f3 := h.blk.frozen 3
  have hgl := h.blk.lt
  have hfb : (f != 0) = true := by rw [bne_iff_ne]; exact hf
  have H := Lib.hid h
  clear h hf
  have hpan : ∀ (v : Value) (w : World), (Instr.panic (.iface 107 v)).run Try.prog w = .halt (.panic (.iface 107 v)) w := fun _ _ => rfl
  go_enter Try.func41, Try.ntmps41
  go_wp2_with fail
  exact ⟨rfl, rfl, ⟨at_, (H.out.setO true).setF f⟩, ((Only.refl (fun b => b = g) w).setCell (p := ⟨g, 2, none⟩) (.inl rfl) _).setCell (p := ⟨g, 3, none⟩) (.inl rfl) _⟩
theorem fail_over (g c at_ : Nat) (A : Option Addr) (bs : List UInt8) (f f0 : Int) (w : World) (h : Rd w g A c bs at_ true f0) :
    Calls Try.prog 41 #[.pointer (some ⟨g, 0, none⟩), .int .i64 f] w fun e w' => e = .returned (.tuple #[]) ∧ w' = w := by
  have h2 := h.c2
  have hgl := h.blk.lt
  clear h
  go_enter Try.func41, Try.ntmps41
  go_wp2_with fail
  go_end0
  exact ⟨rfl, rfl⟩
theorem sliceB : Try.prog.underlying 22 = some (.slice (Try.prog.elem 22)) := by kernel_rfl
theorem sizeB (w : World) : (sizeOf (Try.prog.elem 22)).run Try.prog w = .ok 1 w := by kernel_rfl
/-- So many bytes, as they lie there. -/
def Took (w : World) (g : Nat) (A : Option Addr) (c : Nat) (bs : List UInt8) (at_ n : Nat) (e : Ending) (w' : World) : Prop :=
  ∃ A2, e = .returned (.slice A2 n (c - at_)) ∧ Moved A c at_ A2 ∧ Rd w' g A c bs (at_ + n) false 0 ∧ Only (fun b => b = g) w w'
theorem take_ok (g c at_ n : Nat) (A : Option Addr) (bs : List UInt8) (w : World) (h : Rd w g A c bs at_ false 0) (hl : bs.length ≤ 140737488351232) (hfit : at_ + n ≤ bs.length) :
    Calls Try.prog 63 #[.pointer (some ⟨g, 0, none⟩), .int .i64 (n : Int)] w (Took w g A c bs at_ n) := by
  have h0 := h.c0
  have h1 := h.c1
  have f1 := h.blk.frozen 1
  have hgl := h.blk.lt
  have hle := h.le
  obtain ⟨hc1, hc2, -⟩ := h.cap
  have H := Lib.hid h
  clear h
  obtain ⟨A2, hsl0, hmv⟩ := run_to sliceB sizeB A bs.length c at_ (at_ + n) (by omega) (by omega)
  rw [Nat.add_sub_cancel_left] at hsl0
  have hsl : ∀ w', (Instr.slice 22 (.slice A bs.length c) (some (.int .i64 (at_ : Int))) (some (.int .i64 ((at_ : Int) + (n : Int)))) none).run Try.prog w' = .ok (.slice A2 n (c - at_)) w' := fun w' => by
    rw [← Int.natCast_add]; exact hsl0 w'
  have g1 : ¬ ((bs.length : Int) - (at_ : Int) < (n : Int)) := by omega
  have Hmv := Lib.hid hmv
  have Hfit := Lib.hid hfit
  have hsm : (at_ : Int) + (n : Int) ≤ 140737488351232 := by omega
  clear hsl0 hmv hc2 hfit
  go_enter Try.func63, Try.ntmps63
  go_wp2_with fail
  go_quiet (fail)
  go_wp2_with fail
  go_quiet (fail)
  go_wp2_with fail
  go_ret
  exact ⟨A2, rfl, Hmv.out, (H.out.drewN _).setAt (at_ + n) Hfit.out, ((Only.refl (fun b => b = g) w).drewN _).setCell (p := ⟨g, 1, none⟩) (.inl rfl) _⟩
theorem take_cut (g c at_ : Nat) (n : Int) (A : Option Addr) (bs : List UInt8) (w : World) (h : Rd w g A c bs at_ false 0) (hl : bs.length ≤ 140737488351232) (hcut : (bs.length : Int) < at_ + n) :
    Calls Try.prog 63 #[.pointer (some ⟨g, 0, none⟩), .int .i64 n] w (Fell w g A c bs 11) := by
  have h0 := h.c0
  have h1 := h.c1
  have f1 := h.blk.frozen 1
  have hgl := h.blk.lt
  have hle := h.le
  have H := Lib.hid h
  have g1 : (bs.length : Int) - (at_ : Int) < n := by omega
  clear h hcut
  go_enter Try.func63, Try.ntmps63
  go_wp2_with fail
  go_quiet (fail)
  go_wp2_with fail
  refine (fail_any g c at_ A bs 11 (by decide) _ (H.out.drewN _)).mono ?_
  rintro e w' ⟨rfl, hrd, ho⟩
  exact ⟨rfl, rfl, hrd, ⟨ho.os, ho.tape, ho.output, ho.size, ho.block⟩⟩
/-! ### A number's form, read -/
/-- The number that bytes make, the highest first. -/
def beNat (l : List UInt8) : Nat := l.foldl (fun u c => u * 256 + c.toNat) 0
theorem beNat_snoc (l : List UInt8) (x : UInt8) : beNat (l ++ [x]) = beNat l * 256 + x.toNat := by
  unfold beNat
  rw [List.foldl_append]
  rfl
theorem beNat_ltA (l : List UInt8) : ∀ u, l.foldl (fun u (c : UInt8) => u * 256 + c.toNat) u < (u + 1) * 256 ^ l.length := by
  induction l with
  | nil => intro u; simp
  | cons x l ih =>
    intro u
    rw [List.foldl_cons, List.length_cons, Nat.pow_succ]
    refine Nat.lt_of_lt_of_le (ih _) ?_
    have hx := x.toNat_lt
    calc (u * 256 + x.toNat + 1) * 256 ^ l.length ≤ ((u + 1) * 256) * 256 ^ l.length := Nat.mul_le_mul_right _ (by omega)
      _ = (u + 1) * (256 ^ l.length * 256) := by rw [Nat.mul_assoc, Nat.mul_comm 256]
theorem beNat_lt (l : List UInt8) : beNat l < 256 ^ l.length := by
  have := beNat_ltA l 0
  rwa [Nat.zero_add, Nat.one_mul] at this
/-- What stands at a place: the number and how many bytes it has; or the fault. -/
def numberL (bs : List UInt8) (at_ : Nat) : Except Int (Nat × Nat) :=
  if bs.length < at_ + 1 then .error 11
  else if (bs.getD at_ 0).toNat < 248 then .ok ((bs.getD at_ 0).toNat, 1)
  else if bs.length < at_ + 1 + ((bs.getD at_ 0).toNat - 247) then .error 11
  else if (bs.getD (at_ + 1) 0).toNat = 0 ∨ beNat ((bs.drop (at_ + 1)).take ((bs.getD at_ 0).toNat - 247)) < 248 then .error 12
  else .ok (beNat ((bs.drop (at_ + 1)).take ((bs.getD at_ 0).toNat - 247)), 1 + ((bs.getD at_ 0).toNat - 247))
theorem or_byte64 (u : Nat) (c : UInt8) (h : u < 72057594037927936) : bits .or .u64 ((u : Int) * 256) (c.toNat : Int) = ((u * 256 + c.toNat : Nat) : Int) := by
  have hc := c.toNat_lt
  have h1 : bits .or .u64 ((u : Int) * 256) (c.toNat : Int) = IntKind.u64.wrap (((BitVec.ofInt 64 ((u : Int) * 256)) ||| (BitVec.ofInt 64 (c.toNat : Int))).toNat : Int) := rfl
  rw [h1, show (u : Int) * 256 = ((u * 256 : Nat) : Int) from by omega, BitVec.ofInt_natCast, BitVec.ofInt_natCast, BitVec.toNat_or, BitVec.toNat_ofNat, BitVec.toNat_ofNat, Nat.mod_eq_of_lt (by omega), Nat.mod_eq_of_lt (by omega)]
  have h2 : u * 256 ||| c.toNat = u * 256 + c.toNat := by
    rw [Nat.mul_comm, show (256 : Nat) = 2 ^ 8 from rfl, ← Nat.two_pow_add_eq_or_of_lt (by omega)]
  rw [h2, IntKind.wrap_u64]
  omega
theorem beNat_take (l : List UInt8) (j : Nat) (h : j < l.length) : beNat (l.take (j + 1)) = beNat (l.take j) * 256 + (l[j]).toNat := by
  rw [List.take_succ_eq_append_getElem h, beNat_snoc]
theorem RV.byteAt {w : World} {A A2 : Option Addr} {bs : List UInt8} {c at_ n : Nat} (hr : RV w A (bs.map bv)) (hm : Moved A c at_ A2) (hc : bs.length ≤ c) (hfit : at_ + n ≤ bs.length) (hn : 0 < n) :
    ∃ b off, A2 = some ⟨b, off, none⟩ ∧ b < w.heap.size ∧ ∀ j, j < n → w.cell? ⟨b, off + j, none⟩ = some (.int .u8 ((bs.getD (at_ + j) 0).toNat : Int)) := by
  have h1 := hr.moved hm (by rw [List.length_map]; exact hc)
  obtain ⟨b, off, hA, hb, hcl⟩ := h1.at_ (by rw [List.length_drop, List.length_map]; omega)
  refine ⟨b, off, hA, hb, fun j hj => hcl j _ ?_⟩
  rw [List.getElem?_drop, List.getElem?_map, List.getElem?_eq_getElem (by omega), List.getD_eq_getElem?_getD, List.getElem?_eq_getElem (by omega)]
  rfl
def Numbered (w : World) (g : Nat) (A : Option Addr) (c : Nat) (bs : List UInt8) (at_ u k : Nat) (e : Ending) (w' : World) : Prop :=
  e = .returned (.int .u64 (u : Int)) ∧ Rd w' g A c bs (at_ + k) false 0 ∧ Only (fun b => b = g) w w'
set_option maxRecDepth 100000 in
set_option maxHeartbeats 1000000 in
theorem number_any (g c at_ : Nat) (A : Option Addr) (bs : List UInt8) (w : World) (h : Rd w g A c bs at_ false 0) (hl : bs.length ≤ 140737488351232) :
    Calls Try.prog 62 #[.pointer (some ⟨g, 0, none⟩)] w fun e w' => match numberL bs at_ with | .ok (u, k) => Numbered w g A c bs at_ u k e w' | .error f => Fell w g A c bs f e w' := by
  have H := Lib.hid h
  have hle := h.le
  have hcap := h.cap
  by_cases h1 : bs.length < at_ + 1
  · have e : numberL bs at_ = .error 11 := by unfold numberL; rw [if_pos h1]
    rw [e]
    clear h
    go_enter Try.func62, Try.ntmps62
    go_wp2_with fail
    refine (take_cut g c at_ 1 A bs w H.out hl (by omega)).mono ?_
    rintro e w' ⟨rfl, hrd, ho⟩
    exact ⟨rfl, rfl, hrd, ho⟩
  obtain ⟨x, hx⟩ : ∃ x, x = (bs.getD at_ 0).toNat := ⟨_, rfl⟩
  have hx8 : x < 256 := by rw [hx]; exact UInt8.toNat_lt _
  have htake := take_ok g c at_ 1 A bs w H.out hl (by omega)
  by_cases h2 : x < 248
  · have e : numberL bs at_ = .ok (x, 1) := by unfold numberL; rw [if_neg h1, ← hx, if_pos h2]
    rw [e]
    clear h hle
    go_enter Try.func62, Try.ntmps62
    go_wp2_with fail
    refine htake.mono ?_
    rintro e w1 ⟨A2, rfl, hm, hrd, ho⟩
    obtain ⟨b, off, rfl, hb, hc0⟩ := RV.byteAt hrd.rv hm hcap.1 (n := 1) (by omega) (by omega)
    have c0 := hc0 0 (by omega)
    rw [Nat.add_zero, Nat.add_zero, ← hx] at c0
    have g1 : (x : Int) < 248 := by omega
    have Hrd := Lib.hid hrd
    have Ho := Lib.hid ho
    clear hc0 hm hrd ho htake hx
    go_wp2_with fail
    go_ret
    exact ⟨rfl, Hrd.out, Ho.out⟩
  obtain ⟨k, hk⟩ : ∃ k, k = x - 247 := ⟨_, rfl⟩
  have hsub : (x : Int) - 247 = (k : Int) := by omega
  have hk8 : 1 ≤ k ∧ k ≤ 8 := by omega
  have g0 : ¬ (x : Int) < 248 := by omega
  by_cases h3 : bs.length < at_ + 1 + k
  · have e : numberL bs at_ = .error 11 := by unfold numberL; rw [if_neg h1, ← hx, if_neg h2, ← hk, if_pos h3]
    rw [e]
    clear h hle
    go_enter Try.func62, Try.ntmps62
    go_wp2_with fail
    refine htake.mono ?_
    rintro e w1 ⟨A2, rfl, hm, hrd, ho⟩
    obtain ⟨b, off, rfl, hb, hc0⟩ := RV.byteAt hrd.rv hm hcap.1 (n := 1) (by omega) (by omega)
    have c0 := hc0 0 (by omega)
    rw [Nat.add_zero, Nat.add_zero, ← hx] at c0
    have Hrd := Lib.hid hrd
    have Ho := Lib.hid ho
    clear hc0 hm hrd ho htake hx hk
    go_wp2_with fail
    refine (take_cut g c (at_ + 1) (k : Int) A bs w1 Hrd.out hl (by omega)).mono ?_
    rintro e w2 ⟨rfl, hrd2, ho2⟩
    exact ⟨rfl, rfl, hrd2, Ho.out.trans ho2⟩
  obtain ⟨y, hy⟩ : ∃ y, y = (bs.getD (at_ + 1) 0).toNat := ⟨_, rfl⟩
  have hy8 : y < 256 := by rw [hy]; exact UInt8.toNat_lt _
  obtain ⟨l, hl0⟩ : ∃ l, l = (bs.drop (at_ + 1)).take k := ⟨_, rfl⟩
  have hll : l.length = k := by rw [hl0, List.length_take, List.length_drop]; omega
  obtain ⟨u, hu⟩ : ∃ u, u = beNat l := ⟨_, rfl⟩
  have hu64 : u < 18446744073709551616 := by
    rw [hu]
    have h1 := beNat_lt l
    have h2 : 256 ^ l.length ≤ 256 ^ 8 := Nat.pow_le_pow_right (by omega) (by omega)
    have h3 : (256 : Nat) ^ 8 = 18446744073709551616 := by decide
    omega
  have hres : numberL bs at_ = if y = 0 ∨ u < 248 then .error 12 else .ok (u, 1 + k) := by
    unfold numberL; rw [if_neg h1, ← hx, if_neg h2, ← hk, if_neg h3, ← hy, ← hl0, ← hu]
  obtain ⟨R, hR⟩ : ∃ R, R = numberL bs at_ := ⟨_, rfl⟩
  rw [← hR]
  rw [hres] at hR
  have HR := Lib.hid hR
  have Hu := Lib.hid hu
  have Hl0 := Lib.hid hl0
  clear h hle hres hu hl0 hR
  go_enter Try.func62, Try.ntmps62
  go_wp2_with fail
  refine htake.mono ?_
  rintro e w1 ⟨A2, rfl, hm, hrd, ho⟩
  obtain ⟨b, off, rfl, hb, hc0⟩ := RV.byteAt hrd.rv hm hcap.1 (n := 1) (by omega) (by omega)
  have c0 := hc0 0 (by omega)
  rw [Nat.add_zero, Nat.add_zero, ← hx] at c0
  have Hrd := Lib.hid hrd
  have Ho := Lib.hid ho
  clear hc0 hm hrd ho htake hx hk
  go_wp2_with fail
  refine (take_ok g c (at_ + 1) k A bs w1 Hrd.out hl (by omega)).mono ?_
  rintro e w2 ⟨A3, rfl, hm3, hrd3, ho3⟩
  obtain ⟨b3, off3, rfl, hb3, hc3⟩ := RV.byteAt hrd3.rv hm3 hcap.1 (n := k) (by omega) (by omega)
  have c3 := hc3 0 (by omega)
  rw [Nat.add_zero, Nat.add_zero, ← hy] at c3
  have Hc3 := Lib.hid hc3
  have Hrd3 := Lib.hid hrd3
  have Ho3 := Lib.hid (Ho.out.trans ho3)
  have Hy := Lib.hid hy
  clear hc3 hm3 hrd3 ho3 c0 hb hy Hrd
  go_wp2_with fail
  go_loop [5, 7, 27] (fun v _ i => ∃ j : Nat, j ≤ k ∧ i = .int .i64 j ∧ v = .int .u64 ((beNat (l.take j) : Nat) : Int)) (fun _ _ i => k - (intOf i).toNat)
  case atStart => exact ⟨0, Nat.zero_le _, rfl, rfl⟩
  case round =>
    obtain ⟨j, hj, rfl, rfl⟩ := hrel
    by_cases hlt : j < k
    · have g1 : (j : Int) < (k : Int) := by omega
      have cj := Hc3.out j hlt
      have hlj : l[j]'(by omega) = bs.getD (at_ + 1 + j) 0 := by
        have : l[j]? = some (bs.getD (at_ + 1 + j) 0) := by
          rw [Hl0.out, List.getElem?_take, if_pos hlt, List.getElem?_drop, List.getD_eq_getElem?_getD, List.getElem?_eq_getElem (by omega)]
          rfl
        rw [List.getElem?_eq_getElem (by omega)] at this
        injection this
      have hstep := beNat_take l j (by omega)
      rw [hlj] at hstep
      have hub : beNat (l.take j) < 72057594037927936 := by
        have h1 := beNat_lt (l.take j)
        have h2 : 256 ^ (l.take j).length ≤ 256 ^ 7 := Nat.pow_le_pow_right (by omega) (by rw [List.length_take]; omega)
        have h3 : (256 : Nat) ^ 7 = 72057594037927936 := by decide
        omega
      have hor := or_byte64 (beNat (l.take j)) (bs.getD (at_ + 1 + j) 0) hub
      have hc8 := (bs.getD (at_ + 1 + j) 0).toNat_lt
      have Hstep := Lib.hid hstep
      generalize (bs.getD (at_ + 1 + j) 0).toNat = z at *
      generalize beNat (l.take j) = v at *
      clear hstep hlj
      go_wp2_with fail
      exact ⟨⟨j + 1, by omega, by go_num, by rw [Hstep.out]; go_num⟩, by simp [intOf]; omega⟩
    · obtain rfl : j = k := by omega
      rw [List.take_of_length_le (by omega), ← Hu.out]
      have hw2 : Rd w2 g A c bs (at_ + (1 + j)) false 0 := by rw [← Nat.add_assoc]; exact Hrd3.out
      have Hw2 := Lib.hid hw2
      clear hw2 hlt hj
      by_cases hy0 : y = 0
      · subst hy0
        have hR := HR.out
        rw [if_pos (.inl rfl)] at hR
        subst hR
        go_wp2_with fail
        refine (fail_any g c _ A bs 12 (by decide) w2 Hw2.out).mono ?_
        rintro e w4 ⟨rfl, hrd4, ho4⟩
        exact ⟨rfl, rfl, hrd4, Ho3.out.trans ho4⟩
      · have hyb : ((y : Int) == 0) = false := by rw [beq_eq_false_iff_ne]; omega
        by_cases hu : u < 248
        · have hR := HR.out
          rw [if_pos (.inr hu)] at hR
          subst hR
          have g2 : (u : Int) < 248 := by omega
          clear hy0
          go_wp2_with fail
          refine (fail_any g c _ A bs 12 (by decide) w2 Hw2.out).mono ?_
          rintro e w4 ⟨rfl, hrd4, ho4⟩
          exact ⟨rfl, rfl, hrd4, Ho3.out.trans ho4⟩
        · have hR := HR.out
          rw [if_neg (by omega)] at hR
          subst hR
          have g2 : ¬ (u : Int) < 248 := by omega
          clear hy0
          go_wp2_with fail
          go_ret
          exact ⟨rfl, Hw2.out, Ho3.out⟩
end

section
/- Contracts of the Reader's calls: Num, Int, Bool, Bytes, Text, Raw, Left, Most. -/
open Go.RowKit

def rNumL (bs : List UInt8) (at_ : Nat) : Except Int (Nat × Nat) :=
  match numberL bs at_ with
  | .error f => .error f
  | .ok (u, k) => if 9223372036854775808 ≤ u then .error 12 else .ok (u, k)
theorem number_lt {bs : List UInt8} {at_ u k : Nat} (h : numberL bs at_ = .ok (u, k)) : u < 18446744073709551616 ∧ 1 ≤ k ∧ at_ + k ≤ bs.length := by
  unfold numberL at h
  split at h
  · cases h
  split at h
  · injection h with h
    injection h with h1 h2
    have := (bs.getD at_ 0).toNat_lt
    omega
  split at h
  · cases h
  split at h
  · cases h
  · rename_i h1 h2 h3 h4
    injection h with h
    injection h with h5 h6
    have hx := (bs.getD at_ 0).toNat_lt
    refine ⟨?_, by omega, by omega⟩
    rw [← h5]
    have h7 := beNat_lt ((bs.drop (at_ + 1)).take ((bs.getD at_ 0).toNat - 247))
    have h8 : 256 ^ ((bs.drop (at_ + 1)).take ((bs.getD at_ 0).toNat - 247)).length ≤ 256 ^ 8 := Nat.pow_le_pow_right (by omega) (by rw [List.length_take]; omega)
    have h9 : (256 : Nat) ^ 8 = 18446744073709551616 := by decide
    omega
theorem rNum_lt {bs : List UInt8} {at_ u k : Nat} (h : rNumL bs at_ = .ok (u, k)) : u < 9223372036854775808 ∧ 1 ≤ k ∧ at_ + k ≤ bs.length ∧ numberL bs at_ = .ok (u, k) := by
  unfold rNumL at h
  split at h
  · cases h
  · rename_i u2 k2 hn
    split at h
    · cases h
    · injection h with h
      injection h with h1 h2
      subst h1 h2
      have := number_lt hn
      exact ⟨by omega, this.2.1, this.2.2, hn⟩
set_option maxRecDepth 100000 in
theorem rNum_any (g c at_ : Nat) (A : Option Addr) (bs : List UInt8) (w : World) (h : Rd w g A c bs at_ false 0) (hl : bs.length ≤ 140737488351232) :
    Calls Try.prog 32 #[.pointer (some ⟨g, 0, none⟩)] w fun e w' => match rNumL bs at_ with
      | .ok (u, k) => e = .returned (.int .i64 (u : Int)) ∧ Rd w' g A c bs (at_ + k) false 0 ∧ Only (fun b => b = g) w w'
      | .error f => Fell w g A c bs f e w' := by
  have h2 := h.c2
  have hgl := h.blk.lt
  have hc := number_any g c at_ A bs w h hl
  cases hn : numberL bs at_ with
  | error f =>
    rw [hn] at hc
    have e : rNumL bs at_ = .error f := by unfold rNumL; rw [hn]
    rw [e]
    clear h
    go_enter Try.func32, Try.ntmps32
    go_wp2_with fail
    refine hc.mono ?_
    rintro e w' ⟨rfl, hrd, ho⟩
    exact ⟨rfl, rfl, hrd, ho⟩
  | ok uk =>
    obtain ⟨u, k⟩ := uk
    rw [hn] at hc
    obtain ⟨hu, hk⟩ := number_lt hn
    by_cases hbig : 9223372036854775808 ≤ u
    · have e : rNumL bs at_ = .error 12 := by unfold rNumL; rw [hn]; exact if_pos hbig
      rw [e]
      have g1 : ((u : Int) / 9223372036854775808 != 0) = true := by rw [bne_iff_ne]; omega
      clear h hbig
      go_enter Try.func32, Try.ntmps32
      go_wp2_with fail
      refine hc.mono ?_
      rintro e w' ⟨rfl, hrd, ho⟩
      have Hrd := Lib.hid hrd
      have Ho := Lib.hid ho
      clear hc hrd ho
      go_wp2_with fail
      refine (fail_any g c _ A bs 12 (by decide) w' Hrd.out).mono ?_
      rintro e w4 ⟨rfl, hrd4, ho4⟩
      exact ⟨rfl, rfl, hrd4, Ho.out.trans ho4⟩
    · have e : rNumL bs at_ = .ok (u, k) := by unfold rNumL; rw [hn]; exact if_neg hbig
      rw [e]
      have g1 : ((u : Int) / 9223372036854775808 != 0) = false := by rw [bne_eq_false_iff_eq]; omega
      have g2 : (u : Int) < 9223372036854775808 := by omega
      clear h hbig
      go_enter Try.func32, Try.ntmps32
      go_wp2_with fail
      refine hc.mono ?_
      rintro e w' ⟨rfl, hrd, ho⟩
      have Hrd := Lib.hid hrd
      have Ho := Lib.hid ho
      clear hc hrd ho
      go_wp2_with fail
      go_ret
      exact ⟨rfl, Hrd.out, Ho.out⟩
/-- An int out of its fold. -/
def unfoldN (u : Nat) : Int := if u % 2 = 0 then ((u / 2 : Nat) : Int) else -((u / 2 : Nat) : Int) - 1
theorem unfold_bits (u : Nat) (hu : u < 18446744073709551616) : bits .xor .i64 ((u : Int) / 2) (wrap64 (-wrap64 (bits .and .u64 (u : Int) 1))) = unfoldN u := by
  have h1 : bits .and .u64 (u : Int) 1 = ((u % 2 : Nat) : Int) := by
    have h := bits_and_u64_nat u 1 hu (by decide)
    rw [Nat.and_one_is_mod] at h
    exact h
  have h2 : ∀ b : Int, bits .xor .i64 ((u : Int) / 2) b = IntKind.i64.wrap (((BitVec.ofInt 64 ((u : Int) / 2)) ^^^ (BitVec.ofInt 64 b)).toNat : Int) := fun _ => rfl
  have h3 : (u : Int) / 2 = ((u / 2 : Nat) : Int) := by omega
  rw [h1]
  unfold unfoldN
  by_cases h : u % 2 = 0
  · rw [if_pos h, h, h2, h3]
    rw [show wrap64 (-wrap64 ((0 : Nat) : Int)) = 0 from by unfold wrap64; omega, BitVec.ofInt_natCast, show BitVec.ofInt 64 0 = 0#64 from rfl, BitVec.xor_zero, BitVec.toNat_ofNat, Nat.mod_eq_of_lt (by omega)]
    simp only [IntKind.wrap_i64]
    omega
  · rw [if_neg h, show u % 2 = 1 from by omega, h2, h3]
    rw [show wrap64 (-wrap64 ((1 : Nat) : Int)) = -1 from by unfold wrap64; omega, BitVec.ofInt_natCast, show BitVec.ofInt 64 (-1) = BitVec.allOnes 64 from rfl, BitVec.xor_allOnes, BitVec.toNat_not, BitVec.toNat_ofNat, Nat.mod_eq_of_lt (by omega)]
    simp only [IntKind.wrap_i64]
    omega
set_option maxRecDepth 100000 in
theorem rInt_any (g c at_ : Nat) (A : Option Addr) (bs : List UInt8) (w : World) (h : Rd w g A c bs at_ false 0) (hl : bs.length ≤ 140737488351232) :
    Calls Try.prog 68 #[.pointer (some ⟨g, 0, none⟩)] w fun e w' => match numberL bs at_ with
      | .ok (u, k) => e = .returned (.int .i64 (unfoldN u)) ∧ Rd w' g A c bs (at_ + k) false 0 ∧ Only (fun b => b = g) w w'
      | .error f => Fell w g A c bs f e w' := by
  have h2 := h.c2
  have hgl := h.blk.lt
  have hc := number_any g c at_ A bs w h hl
  cases hn : numberL bs at_ with
  | error f =>
    rw [hn] at hc
    clear h
    go_enter Try.func68, Try.ntmps68
    go_wp2_with fail
    refine hc.mono ?_
    rintro e w' ⟨rfl, hrd, ho⟩
    exact ⟨rfl, rfl, hrd, ho⟩
  | ok uk =>
    obtain ⟨u, k⟩ := uk
    rw [hn] at hc
    obtain ⟨hu, hk⟩ := number_lt hn
    clear h
    go_enter Try.func68, Try.ntmps68
    go_wp2_with fail
    refine hc.mono ?_
    rintro e w' ⟨rfl, hrd, ho⟩
    have Hrd := Lib.hid hrd
    have Ho := Lib.hid ho
    clear hc hrd ho
    go_wp2_with fail
    have hub := unfold_bits u hu
    go_ret
    exact ⟨by rw [← hub]; rfl, Hrd.out, Ho.out⟩
def rBoolL (bs : List UInt8) (at_ : Nat) : Except Int Bool :=
  if bs.length < at_ + 1 then .error 11 else if 1 < (bs.getD at_ 0).toNat then .error 12 else .ok ((bs.getD at_ 0).toNat == 1)
set_option maxRecDepth 100000 in
theorem rBool_any (g c at_ : Nat) (A : Option Addr) (bs : List UInt8) (w : World) (h : Rd w g A c bs at_ false 0) (hl : bs.length ≤ 140737488351232) :
    Calls Try.prog 69 #[.pointer (some ⟨g, 0, none⟩)] w fun e w' => match rBoolL bs at_ with
      | .ok b => e = .returned (.bool b) ∧ Rd w' g A c bs (at_ + 1) false 0 ∧ Only (fun b => b = g) w w'
      | .error f => Fell w g A c bs f e w' := by
  have h2 := h.c2
  have hgl := h.blk.lt
  have hcap := h.cap
  by_cases h1 : bs.length < at_ + 1
  · have e : rBoolL bs at_ = .error 11 := by unfold rBoolL; rw [if_pos h1]
    rw [e]
    have hc := take_cut g c at_ 1 A bs w h hl (by omega)
    clear h h1
    go_enter Try.func69, Try.ntmps69
    go_wp2_with fail
    refine hc.mono ?_
    rintro e w' ⟨rfl, hrd, ho⟩
    exact ⟨rfl, rfl, hrd, ho⟩
  have hc := take_ok g c at_ 1 A bs w h hl (by omega)
  obtain ⟨x, hx⟩ : ∃ x, x = (bs.getD at_ 0).toNat := ⟨_, rfl⟩
  have hx8 : x < 256 := by rw [hx]; exact UInt8.toNat_lt _
  by_cases hb : 1 < x
  · have e : rBoolL bs at_ = .error 12 := by unfold rBoolL; rw [if_neg h1, ← hx, if_pos hb]
    rw [e]
    have g1 : (1 : Int) < x := by omega
    clear h e
    go_enter Try.func69, Try.ntmps69
    go_wp2_with fail
    refine hc.mono ?_
    rintro e w1 ⟨A2, rfl, hm, hrd, ho⟩
    obtain ⟨b, off, rfl, hb2, hc0⟩ := RV.byteAt hrd.rv hm hcap.1 (n := 1) (by omega) (by omega)
    have c0 := hc0 0 (by omega)
    rw [Nat.add_zero, Nat.add_zero, ← hx] at c0
    have Hrd := Lib.hid hrd
    have Ho := Lib.hid ho
    clear hc0 hm hrd ho hc hx h1 hb
    go_wp2_with fail
    refine (fail_any g c _ A bs 12 (by decide) w1 Hrd.out).mono ?_
    rintro e w4 ⟨rfl, hrd4, ho4⟩
    exact ⟨rfl, rfl, hrd4, Ho.out.trans ho4⟩
  · have e : rBoolL bs at_ = .ok (x == 1) := by unfold rBoolL; rw [if_neg h1, ← hx, if_neg hb]
    rw [e]
    have g1 : ¬ (1 : Int) < x := by omega
    obtain ⟨t, ht⟩ : ∃ t, t = (x == 1) := ⟨_, rfl⟩
    have htb : ((x : Int) == 1) = t := by rw [ht, Bool.eq_iff_iff, beq_iff_eq, beq_iff_eq]; omega
    rw [← ht]
    clear h e ht
    go_enter Try.func69, Try.ntmps69
    go_wp2_with fail
    refine hc.mono ?_
    rintro e w1 ⟨A2, rfl, hm, hrd, ho⟩
    obtain ⟨b, off, rfl, hb2, hc0⟩ := RV.byteAt hrd.rv hm hcap.1 (n := 1) (by omega) (by omega)
    have c0 := hc0 0 (by omega)
    rw [Nat.add_zero, Nat.add_zero, ← hx] at c0
    have Hrd := Lib.hid hrd
    have Ho := Lib.hid ho
    clear hc0 hm hrd ho hc hx h1 hb
    go_wp2_with fail
    go_ret
    exact ⟨rfl, Hrd.out, Ho.out⟩
/-- Where the taken bytes lie. -/
theorem took_sl {w : World} {A A2 : Option Addr} {bs : List UInt8} {c at_ n : Nat} (hr : RV w A (bs.map bv)) (hm : Moved A c at_ A2) (hc : bs.length ≤ c) (hfit : at_ + n ≤ bs.length) (hA : A = none → bs.length = 0 ∧ c = 0) :
    Sl w ⟨A2, c - at_, (bs.drop at_).take n⟩ := by
  refine ⟨?_, fun h => ?_⟩
  · have h1 := hr.moved hm (by rw [List.length_map]; exact hc)
    show RV w A2 (((bs.drop at_).take n).map bv)
    rw [List.map_take, List.map_drop]
    rcases h1 with h | ⟨b, off, hA, hb, hc⟩
    · left; rw [h, List.take_nil]
    · refine .inr ⟨b, off, hA, hb, fun j v hj => hc j v ?_⟩
      rw [List.getElem?_take] at hj
      split at hj
      · exact hj
      · cases hj
  · have h : A2 = none := h
    have hn : A = none := by
      rcases hm with ⟨h1, _⟩ | ⟨h1, _⟩
      · rw [← h1]; exact h
      · cases A with
        | none => rfl
        | some a => rw [h] at h1; cases h1
    obtain ⟨h1, h2⟩ := hA hn
    show ((bs.drop at_).take n).length = 0 ∧ c - at_ = 0
    rw [List.length_take, List.length_drop]
    omega
def rRawL (bs : List UInt8) (at_ : Nat) (n : Int) : Except Int (List UInt8) :=
  if n < 0 then .error 1 else if (bs.length : Int) < at_ + n then .error 11 else .ok ((bs.drop at_).take n.toNat)
/-- Bytes of the caller's own are handed back. -/
def GotB (w : World) (g : Nat) (A : Option Addr) (c : Nat) (bs : List UInt8) (at2 : Nat) (ys : List UInt8) (e : Ending) (w' : World) : Prop :=
  ∃ A2 c2, e = .returned (.slice A2 ys.length c2) ∧ OwnB w' w.heap.size A2 ys.length c2 ys ∧ Rd w' g A c bs at2 false 0 ∧ Only (fun b => b = g) w w'
theorem Only.freshOwn {S : Nat → Prop} {w w1 w2 : World} (h : Only S w w1) (hb : Below w1.heap.size w1 w2) : Only S w w2 := h.trans (Only.of_fresh hb)
set_option maxRecDepth 100000 in
theorem rRaw_any (g c at_ : Nat) (n : Int) (A : Option Addr) (bs : List UInt8) (w : World) (h : Rd w g A c bs at_ false 0) (hl : bs.length ≤ 140737488351232) :
    Calls Try.prog 33 #[.pointer (some ⟨g, 0, none⟩), .int .i64 n] w fun e w' => match rRawL bs at_ n with
      | .ok ys => GotB w g A c bs (at_ + n.toNat) ys e w'
      | .error f => Fell w g A c bs f e w' := by
  have h2 := h.c2
  have hgl := h.blk.lt
  have hcap := h.cap
  by_cases hn : n < 0
  · have e : rRawL bs at_ n = .error 1 := by unfold rRawL; rw [if_pos hn]
    rw [e]
    have hc := fail_any g c _ A bs 1 (by decide) w h
    clear h e
    go_enter Try.func33, Try.ntmps33
    go_wp2_with fail
    refine hc.mono ?_
    rintro e w' ⟨rfl, hrd, ho⟩
    exact ⟨rfl, rfl, hrd, ho⟩
  by_cases h1 : (bs.length : Int) < at_ + n
  · have e : rRawL bs at_ n = .error 11 := by unfold rRawL; rw [if_neg hn, if_pos h1]
    rw [e]
    have hc := take_cut g c at_ n A bs w h hl h1
    clear h e
    go_enter Try.func33, Try.ntmps33
    go_wp2_with fail
    refine hc.mono ?_
    rintro e w' ⟨rfl, hrd, ho⟩
    exact ⟨rfl, rfl, hrd, ho⟩
  · have e : rRawL bs at_ n = .ok ((bs.drop at_).take n.toNat) := by unfold rRawL; rw [if_neg hn, if_neg h1]
    rw [e]
    obtain ⟨m, rfl⟩ := Int.eq_ofNat_of_zero_le (by omega : 0 ≤ n)
    rw [Int.toNat_natCast]
    have hfit : at_ + m ≤ bs.length := by omega
    have hc := take_ok g c at_ m A bs w h hl hfit
    have hlen : ((bs.drop at_).take m).length = m := by rw [List.length_take, List.length_drop]; omega
    have Hlen := Lib.hid hlen
    clear h e h1 hlen
    go_enter Try.func33, Try.ntmps33
    go_wp2_with fail
    refine hc.mono ?_
    rintro e w1 ⟨A2, rfl, hm, hrd, ho⟩
    have hsl := took_sl (n := m) hrd.rv hm hcap.1 hfit hcap.2.2
    have hcl := clone_any ⟨A2, c - at_, (bs.drop at_).take m⟩ w1 hsl (by show ((bs.drop at_).take m).length ≤ _; rw [Hlen.out]; omega)
    have Hrd := Lib.hid hrd
    have Ho := Lib.hid ho
    dsimp only at hcl
    generalize hys : (bs.drop at_).take m = ys at *
    rw [Hlen.out] at hcl
    clear hm hrd ho hc hsl
    go_wp2_with fail
    refine hcl.mono ?_
    rintro e w3 ⟨A3, c3, rfl, hown, hb⟩
    have hown2 := hown.mono (base' := w.heap.size) Ho.out.size
    have Hown := Lib.hid hown2
    have Hb := Lib.hid hb
    clear hown hb hown2 hcl
    go_wp2_with fail
    go_ret
    subst hys
    exact ⟨A3, c3, rfl, Hown.out, Hrd.out.below Hb.out, Ho.out.freshOwn Hb.out⟩
def rBytesL (bs : List UInt8) (at_ : Nat) : Except Int (List UInt8 × Nat) :=
  match rNumL bs at_ with
  | .error f => .error f
  | .ok (n, k) => if bs.length < at_ + k + n then .error 11 else .ok ((bs.drop (at_ + k)).take n, at_ + k + n)
set_option maxRecDepth 100000 in
theorem rBytes_any (g c at_ : Nat) (A : Option Addr) (bs : List UInt8) (w : World) (h : Rd w g A c bs at_ false 0) (hl : bs.length ≤ 140737488351232) :
    Calls Try.prog 70 #[.pointer (some ⟨g, 0, none⟩)] w fun e w' => match rBytesL bs at_ with
      | .ok (ys, at2) => GotB w g A c bs at2 ys e w'
      | .error f => Fell w g A c bs f e w' := by
  have h2 := h.c2
  have hgl := h.blk.lt
  have hcap := h.cap
  have hc := rNum_any g c at_ A bs w h hl
  cases hn : rNumL bs at_ with
  | error f =>
    rw [hn] at hc
    have e : rBytesL bs at_ = .error f := by unfold rBytesL; rw [hn]
    rw [e]
    clear h e
    go_enter Try.func70, Try.ntmps70
    go_wp2_with fail
    refine hc.mono ?_
    rintro e w' ⟨rfl, hrd, ho⟩
    exact ⟨rfl, rfl, hrd, ho⟩
  | ok uk =>
    obtain ⟨n, k⟩ := uk
    rw [hn] at hc
    obtain ⟨hnl, hk1, hk2, -⟩ := rNum_lt hn
    by_cases h1 : bs.length < at_ + k + n
    · have e : rBytesL bs at_ = .error 11 := by unfold rBytesL; rw [hn]; exact if_pos h1
      rw [e]
      clear h e
      go_enter Try.func70, Try.ntmps70
      go_wp2_with fail
      refine hc.mono ?_
      rintro e w1 ⟨rfl, hrd, ho⟩
      have Hrd := Lib.hid hrd
      have Ho := Lib.hid ho
      clear hc hrd ho
      go_wp2_with fail
      refine (take_cut g c (at_ + k) (n : Int) A bs w1 Hrd.out hl (by omega)).mono ?_
      rintro e w' ⟨rfl, hrd, ho⟩
      exact ⟨rfl, rfl, hrd, Ho.out.trans ho⟩
    · have e : rBytesL bs at_ = .ok ((bs.drop (at_ + k)).take n, at_ + k + n) := by unfold rBytesL; rw [hn]; exact if_neg h1
      rw [e]
      have hfit : at_ + k + n ≤ bs.length := by omega
      have hlen : ((bs.drop (at_ + k)).take n).length = n := by rw [List.length_take, List.length_drop]; omega
      have Hlen := Lib.hid hlen
      clear h e h1 hlen hn
      go_enter Try.func70, Try.ntmps70
      go_wp2_with fail
      refine hc.mono ?_
      rintro e w0 ⟨rfl, hrd0, ho0⟩
      have Ho0 := Lib.hid ho0
      have hc1 := take_ok g c (at_ + k) n A bs w0 hrd0 hl hfit
      clear hc hrd0 ho0
      go_wp2_with fail
      refine hc1.mono ?_
      rintro e w1 ⟨A2, rfl, hm, hrd, ho⟩
      have hsl := took_sl (n := n) hrd.rv hm hcap.1 hfit hcap.2.2
      have hcl := clone_any ⟨A2, c - (at_ + k), (bs.drop (at_ + k)).take n⟩ w1 hsl (by show ((bs.drop (at_ + k)).take n).length ≤ _; rw [Hlen.out]; omega)
      have Hrd := Lib.hid hrd
      have Ho := Lib.hid (Ho0.out.trans ho)
      dsimp only at hcl
      generalize hys : (bs.drop (at_ + k)).take n = ys at *
      rw [Hlen.out] at hcl
      clear hm hrd ho hc1 hsl
      go_wp2_with fail
      refine hcl.mono ?_
      rintro e w3 ⟨A3, c3, rfl, hown, hb⟩
      have hown2 := hown.mono (base' := w.heap.size) Ho.out.size
      have Hown := Lib.hid hown2
      have Hb := Lib.hid hb
      clear hown hb hown2 hcl
      go_wp2_with fail
      go_ret
      subst hys
      exact ⟨A3, c3, rfl, Hown.out, Hrd.out.below Hb.out, Ho.out.freshOwn Hb.out⟩
set_option maxRecDepth 100000 in
theorem rText_any (g c at_ : Nat) (A : Option Addr) (bs : List UInt8) (w : World) (h : Rd w g A c bs at_ false 0) (hl : bs.length ≤ 140737488351232) :
    Calls Try.prog 44 #[.pointer (some ⟨g, 0, none⟩)] w fun e w' => match rBytesL bs at_ with
      | .ok (ys, at2) => e = .returned (.string ⟨ys.toArray⟩) ∧ Rd w' g A c bs at2 false 0 ∧ Only (fun b => b = g) w w'
      | .error f => Fell w g A c bs f e w' := by
  have hc := rBytes_any g c at_ A bs w h hl
  cases hn : rBytesL bs at_ with
  | error f =>
    rw [hn] at hc
    clear h
    go_enter Try.func44, Try.ntmps44
    go_wp2_with fail
    refine hc.mono ?_
    rintro e w' ⟨rfl, hrd, ho⟩
    exact ⟨rfl, rfl, hrd, ho⟩
  | ok p =>
    obtain ⟨ys, at2⟩ := p
    rw [hn] at hc
    clear h
    go_enter Try.func44, Try.ntmps44
    go_wp2_with fail
    refine hc.mono ?_
    rintro e w' ⟨A2, c2, rfl, hown, hrd, ho⟩
    have Hr := Lib.hid (RV.of_own hown)
    clear hc hown
    go_wp2_with (refine wpList_bytesStr rfl (.tmp 4) (A := A2) (c := c2) (ys := ys) rfl rfl Hr.out Try.underlying22 Try.underlying5 Try.underlying9 ?_)
    go_ret
    exact ⟨rfl, hrd, ho⟩
theorem rLeft_any (g c at_ : Nat) (A : Option Addr) (bs : List UInt8) (w : World) (h : Rd w g A c bs at_ false 0) (hl : bs.length ≤ 140737488351232) :
    Calls Try.prog 34 #[.pointer (some ⟨g, 0, none⟩)] w fun e w' => e = .returned (.int .i64 ((bs.length - at_ : Nat) : Int)) ∧ ∃ m, w' = w.drewN m := by
  have h0 := h.c0
  have h1 := h.c1
  have h2 := h.c2
  have hgl := h.blk.lt
  have hle := h.le
  have e : ((bs.length - at_ : Nat) : Int) = (bs.length : Int) - (at_ : Int) := by omega
  rw [e]
  clear h e
  go_enter Try.func34, Try.ntmps34
  go_wp2_with fail
  go_quiet (fail)
  go_wp2_with fail
  go_ret
  exact ⟨rfl, _, rfl⟩
def rMostL (bs : List UInt8) (at_ : Nat) (n : Int) : Except Int (Nat × Nat) :=
  match rNumL bs at_ with
  | .error f => .error f
  | .ok (u, k) => if n < (u : Int) then .error 2 else .ok (u, k)
end

section
/- The contract of mint's Read. -/
open Go.RowKit

theorem assert_nil (w : World) : (Instr.typeAssert .nilIface 20 107 true).run Try.prog w = .ok (.tuple #[.agg #[.pointer none], .bool false]) w := by kernel_rfl
theorem assert_ended (v : Value) (w : World) : (Instr.typeAssert (.iface 107 v) 20 107 true).run Try.prog w = .ok (.tuple #[v, .bool true]) w := by kernel_rfl
theorem reader_info : ∃ j, Try.prog.info? 105 = some j := Option.isSome_iff_exists.1 (by kernel_rfl)
theorem neq_same (a : Addr) (w : World) : (binOp .neq 49 (.pointer (some a)) (.pointer (some a))).run Try.prog w = .ok (.bool false) w := by
  obtain ⟨j, hj⟩ := reader_info
  exact Lib.run_neq_ptr_same w a Try.underlying49 hj
theorem cell_two {w : World} {g ge k : Nat} {u v z : Value} {o : Obj} {n : Nat} (he : w.cell? ⟨ge, 0, none⟩ = some u) (h2 : ge ≠ g) :
    ((((w.setCell ⟨g, k, none⟩ v).alloc o).drewN n).setCell ⟨ge, 0, none⟩ z).cell? ⟨ge, 0, none⟩ = some z ∧ (((w.setCell ⟨g, k, none⟩ v).setCell ⟨ge, 0, none⟩ z).alloc o).cell? ⟨ge, 0, none⟩ = some z ∧ (((w.setCell ⟨g, k, none⟩ v).alloc o).drewN n).cell? ⟨ge, 0, none⟩ = some u := by
  have hl : ge < w.heap.size := block_lt_of_cell he
  have h1 : (((w.setCell ⟨g, k, none⟩ v).alloc o).drewN n).cell? ⟨ge, 0, none⟩ = some u := by
    rw [(ocell ((((Only.refl (fun b => b = g) w).setCell (p := ⟨g, k, none⟩) (.inl rfl) v).alloc o).drewN n)).1 ge 0 hl h2]
    exact he
  have h3 : (w.setCell ⟨g, k, none⟩ v).cell? ⟨ge, 0, none⟩ = some u := by
    rw [(ocell ((Only.refl (fun b => b = g) w).setCell (p := ⟨g, k, none⟩) (.inl rfl) v)).1 ge 0 hl h2]
    exact he
  refine ⟨World.cell?_setCell_same _ _ _ h1, ?_, h1⟩
  rw [(ocell ((Only.refl (fun _ => False) _).alloc o)).1 ge 0 (by rw [World.size_setCell, World.size_setCell]; exact hl) (fun h => h)]
  exact World.cell?_setCell_same _ _ _ h3
/-- What Read answers. -/
def readE (f : Int) (at_ n : Nat) : Int := if f ≠ 0 then f else if at_ < n then 13 else 0
/-- What the closure leaves behind. -/
structure Closed (w : World) (gr ge g : Nat) (A : Option Addr) (c : Nat) (bs : List UInt8) (at_ : Nat) (f : Int) (w' : World) : Prop where
  cell : w'.cell? ⟨ge, 0, none⟩ = some (.int .i64 (readE f at_ bs.length))
  rd : Rd w' g A c bs at_ true f
  only : Only (fun b => b = g ∨ b = ge) w w'
theorem closed_of {w w1 w2 : World} {gr ge g c at_ : Nat} {A : Option Addr} {bs : List UInt8} {o : Bool} {f : Int} (h : Rd w g A c bs at_ o f) (h2 : ge ≠ g) (hA : ∀ b o, A = some ⟨b, o, none⟩ → b ≠ ge)
    (hw1 : w1 = w.setCell ⟨g, 2, none⟩ (.bool true)) (ho : Only (fun b => b = ge) w1 w2) (hcell : w2.cell? ⟨ge, 0, none⟩ = some (.int .i64 (readE f at_ bs.length))) : Closed w gr ge g A c bs at_ f w2 := by
  subst hw1
  refine ⟨hcell, (h.setO true).only ho (fun e => h2 e.symm) fun b o e => hA b o e, ?_⟩
  have h1 : Only (fun b => b = g ∨ b = ge) w (w.setCell ⟨g, 2, none⟩ (.bool true)) := (Only.refl _ w).setCell (p := ⟨g, 2, none⟩) (.inl (.inl rfl)) _
  exact h1.trans (ho.mono fun _ _ e => .inr e)
set_option maxRecDepth 100000 in
set_option maxHeartbeats 1000000 in
theorem close_ret (gr ge g c at_ : Nat) (A : Option Addr) (bs : List UInt8) (o : Bool) (f : Int) (w : World) (h : Rd w g A c bs at_ o f) (hr : w.cell? ⟨gr, 0, none⟩ = some (.pointer (some ⟨g, 0, none⟩))) (he : w.cell? ⟨ge, 0, none⟩ = some (.int .i64 0)) (hfe : w.frozen? ⟨ge, 0, none⟩ = false)
    (h2 : ge ≠ g) (hA : ∀ b o, A = some ⟨b, o, none⟩ → b ≠ ge) :
    CallsD Try.prog 61 #[.pointer (some ⟨gr, 0, none⟩), .pointer (some ⟨ge, 0, none⟩)] .returning w fun e u' w' => e = .returned (.tuple #[]) ∧ u' = .returning ∧ Closed w gr ge g A c bs at_ f w' := by
  have k2 := h.c2
  have f2 := h.blk.frozen 2
  have f3 := h.c3
  have k1 := h.c1
  have k0 := h.c0
  have hgl := h.blk.lt
  have hle := h.le
  have hrl : gr < w.heap.size := block_lt_of_cell hr
  have hel : ge < w.heap.size := block_lt_of_cell he
  have H := Lib.hid h
  have HA := Lib.hid hA
  clear h hA
  have hta := assert_nil
  have hclose := fun w2 => @closed_of w _ w2 gr ge g c at_ A bs o f H.out h2 HA.out rfl
  have HC := Lib.hid hclose
  clear hclose
  refine callsD_of_wpS Try.func61 rfl fun c₀ cs hu => ?_
  have hc0 : ({ c₀ with mode := FrameMode.returning } : Frame) = c₀ := by cases c₀; simp_all
  have Hc0 := Lib.hid hc0
  clear hc0
  simp only [Try.ntmps61]
  apply wpS_seq
  refine wpS_of_wp ?_
  simp [Array.replicate]
  go_wp2_with fail
  dsimp only [Exit.thenS]
  apply wpS_seq
  apply wpS_region
  simp [wpOpsS, go_sem, recoverD, hu, Exit.thenS]
  refine wpS_of_wp ?_
  by_cases hf : f = 0
  · subst hf
    by_cases hlt : at_ < bs.length
    · have g1 : (at_ : Int) < bs.length := by omega
      have hE : readE 0 at_ bs.length = 13 := by unfold readE; rw [if_neg (by omega), if_pos hlt]
      have HE := Lib.hid hE
      clear hE
      go_wp2_with fail
      go_quiet (fail)
      go_wp2_with fail
      refine ⟨rfl, FrameMode.returning, by rw [Hc0.out], _, results_none rfl _ _ _, rfl, rfl, HC.out _ ?_ ?_⟩
      · exact (((Only.refl (fun b => b = ge) _).alloc _).drewN _).setCell (p := ⟨ge, 0, none⟩) (.inl rfl) _
      · rw [HE.out]
        exact (cell_two he h2).1
    · have g1 : ¬ (at_ : Int) < bs.length := by omega
      have hE : readE 0 at_ bs.length = 0 := by unfold readE; rw [if_neg (by omega), if_neg hlt]
      have HE := Lib.hid hE
      clear hE
      go_wp2_with fail
      go_quiet (fail)
      go_wp2_with fail
      refine ⟨rfl, FrameMode.returning, by rw [Hc0.out], _, results_none rfl _ _ _, rfl, rfl, HC.out _ ?_ ?_⟩
      · exact ((Only.refl (fun b => b = ge) _).alloc _).drewN _
      · rw [HE.out]
        exact (cell_two (z := .int .i64 0) he h2).2.2
  · have hE : readE f at_ bs.length = f := by unfold readE; rw [if_pos hf]
    have hfb : (f != 0) = true := by rw [bne_iff_ne]; exact hf
    have HE := Lib.hid hE
    clear hE hf
    go_wp2_with fail
    refine ⟨rfl, FrameMode.returning, by rw [Hc0.out], _, results_none rfl _ _ _, rfl, rfl, HC.out _ ?_ ?_⟩
    · exact ((Only.refl (fun b => b = ge) _).setCell (p := ⟨ge, 0, none⟩) (.inl rfl) _).alloc _
    · rw [HE.out]
      exact (cell_two (n := 0) he h2).2.1
set_option maxRecDepth 100000 in
set_option maxHeartbeats 1000000 in
theorem close_pan (gr ge g c at_ : Nat) (A : Option Addr) (bs : List UInt8) (o : Bool) (f : Int) (w : World) (h : Rd w g A c bs at_ o f) (hr : w.cell? ⟨gr, 0, none⟩ = some (.pointer (some ⟨g, 0, none⟩))) (he : w.cell? ⟨ge, 0, none⟩ = some (.int .i64 0)) (hfe : w.frozen? ⟨ge, 0, none⟩ = false)
    (h2 : ge ≠ g) (hA : ∀ b o, A = some ⟨b, o, none⟩ → b ≠ ge) :
    CallsD Try.prog 61 #[.pointer (some ⟨gr, 0, none⟩), .pointer (some ⟨ge, 0, none⟩)] (.panicking [endedE g]) w fun e u' w' => e = .returned (.tuple #[]) ∧ u' = .panicking [{ endedE g with recovered := true }] ∧ Closed w gr ge g A c bs at_ f w' := by
  have k2 := h.c2
  have f2 := h.blk.frozen 2
  have f3 := h.c3
  have k1 := h.c1
  have k0 := h.c0
  have hgl := h.blk.lt
  have hle := h.le
  have hrl : gr < w.heap.size := block_lt_of_cell hr
  have hel : ge < w.heap.size := block_lt_of_cell he
  have H := Lib.hid h
  have HA := Lib.hid hA
  clear h hA
  have hta := assert_ended
  have hne := neq_same
  have hclose := fun w2 => @closed_of w _ w2 gr ge g c at_ A bs o f H.out h2 HA.out rfl
  have HC := Lib.hid hclose
  clear hclose
  refine callsD_of_wpS Try.func61 rfl fun c₀ cs hu => ?_
  simp only [Try.ntmps61]
  apply wpS_seq
  refine wpS_of_wp ?_
  simp [Array.replicate]
  go_wp2_with fail
  dsimp only [Exit.thenS]
  apply wpS_seq
  apply wpS_region
  simp [wpOpsS, go_sem, recoverD, hu, Exit.thenS, endedE]
  refine wpS_of_wp ?_
  by_cases hf : f = 0
  · subst hf
    by_cases hlt : at_ < bs.length
    · have g1 : (at_ : Int) < bs.length := by omega
      have hE : readE 0 at_ bs.length = 13 := by unfold readE; rw [if_neg (by omega), if_pos hlt]
      have HE := Lib.hid hE
      clear hE
      go_wp2_with fail
      go_quiet (fail)
      go_wp2_with fail
      refine ⟨rfl, _, rfl, _, results_none rfl _ _ _, rfl, rfl, HC.out _ ?_ ?_⟩
      · exact (((Only.refl (fun b => b = ge) _).alloc _).drewN _).setCell (p := ⟨ge, 0, none⟩) (.inl rfl) _
      · rw [HE.out]
        exact (cell_two he h2).1
    · have g1 : ¬ (at_ : Int) < bs.length := by omega
      have hE : readE 0 at_ bs.length = 0 := by unfold readE; rw [if_neg (by omega), if_neg hlt]
      have HE := Lib.hid hE
      clear hE
      go_wp2_with fail
      go_quiet (fail)
      go_wp2_with fail
      refine ⟨rfl, _, rfl, _, results_none rfl _ _ _, rfl, rfl, HC.out _ ?_ ?_⟩
      · exact ((Only.refl (fun b => b = ge) _).alloc _).drewN _
      · rw [HE.out]
        exact (cell_two (z := .int .i64 0) he h2).2.2
  · have hE : readE f at_ bs.length = f := by unfold readE; rw [if_pos hf]
    have hfb : (f != 0) = true := by rw [bne_iff_ne]; exact hf
    have HE := Lib.hid hE
    clear hE hf
    go_wp2_with fail
    refine ⟨rfl, _, rfl, _, results_none rfl _ _ _, rfl, rfl, HC.out _ ?_ ?_⟩
    · exact ((Only.refl (fun b => b = ge) _).setCell (p := ⟨ge, 0, none⟩) (.inl rfl) _).alloc _
    · rw [HE.out]
      exact (cell_two (n := 0) he h2).2.1
end

section
/- The contract of mint's Read, for a function that either comes to its end or falls by its own Reader. -/
open Go.RowKit

theorem own_caps' {w : World} {base size n c : Nat} {e : TypeId} {A : Option Addr} {vs : List Value} (h : Own w base e size A n c vs) : n ≤ c ∧ c ≤ maxLen ∧ (A = none → n = 0 ∧ c = 0) := by
  rcases h.2 with ⟨hv, hn⟩ | ⟨g, cap, cur, hv, hg, hh, hnc, hcm, -⟩
  · injection hv with h1 h2 h3
    subst hn
    subst h3
    exact ⟨Nat.le_refl _, by unfold maxLen; omega, fun _ => ⟨rfl, rfl⟩⟩
  · injection hv with h1 h2 h3
    subst h3
    exact ⟨hnc, hcm, fun h => by rw [h1] at h; cases h⟩
set_option maxRecDepth 100000 in
set_option maxHeartbeats 1000000 in
theorem read_any (p : Part) (w : World) (hp : Sl w p) (hl : p.ys.length ≤ 140737488351232) (k : FuncId) (first cap : Array Value) (S : Nat → Prop) (T : Nat → Nat → Bool → Int → World → Prop)
    (hcf : ∀ (g : Nat) (w1 : World), (callFunc k (first.push (.pointer (some ⟨g, 0, none⟩)) ++ cap)).run Try.prog w1 = .ok (.enter k (first.push (.pointer (some ⟨g, 0, none⟩)) ++ cap)) w1)
    (hbody : ∀ (g c : Nat) (A : Option Addr) (w1 : World), w.heap.size < g → Below w.heap.size w w1 → Rd w1 g A c p.ys 0 false 0 → (∀ b o, A = some ⟨b, o, none⟩ → w.heap.size < b ∧ b < w1.heap.size) →
      Calls Try.prog k (first.push (.pointer (some ⟨g, 0, none⟩)) ++ cap) w1 fun e w2 => ∃ at_ o f, Rd w2 g A c p.ys at_ o f ∧ T g at_ o f w2 ∧ Only (fun b => b = g ∨ S b) w1 w2 ∧ (e = .returned (.tuple #[]) ∨ (e = .panicked [endedE g] ∧ f ≠ 0)))
    (hS : ∀ b, S b → b < w.heap.size) :
    Calls Try.prog 30 #[.slice p.A p.ys.length p.c, .func (.func k) first cap] w fun e w' => ∃ g at_ o f w2, w.heap.size < g ∧ T g at_ o f w2 ∧ e = .returned (.int .i64 (readE f at_ p.ys.length)) ∧ Only (fun b => b = g ∨ b = w.heap.size) w2 w' ∧ Only S w w' := by
  have hmf : ∀ (fn : Fn) (first cap : Array Value) (w : World), (Instr.makeFunc fn first cap).run Try.prog w = .ok (.func fn first cap) w := fun _ _ _ _ => rfl
  have Hp := Lib.hid hp
  clear hp
  obtain ⟨pA, pc, ys⟩ := p
  dsimp only at hl hbody ⊢
  go_enter_defers Try.func30, Try.ntmps30
  go_wp2_with fail
  have hb0 : Below w.heap.size w (w.alloc (.cells #[.int .i64 0] 37)) := (Below.refl _ _).alloc (Nat.le_refl _) _
  refine (clone_any ⟨pA, pc, ys⟩ _ (Hp.out.below hb0) (by show ys.length ≤ _; omega)).mono ?_
  rintro e w1 ⟨A1, c1, rfl, hown, hb⟩
  dsimp only at hown ⊢
  have hz0 : (w.alloc (.cells #[.int .i64 0] 37)).heap.size = w.heap.size + 1 := by simp
  have hz1 := hb.size
  rw [hz0] at hz1
  have Hown := Lib.hid hown
  have Hb := Lib.hid hb
  clear hb0 hown hb hz0
  go_wp2_with fail
  obtain ⟨w3, hw3⟩ : ∃ w3, w3 = (w1.alloc (.cells #[.slice A1 ys.length c1, .int .i64 0, .bool false, .int .i64 0] 105)).alloc (.cells #[.pointer (some ⟨w1.heap.size, 0, none⟩)] 49) := ⟨_, rfl⟩
  rw [← hw3]
  have hB1 : Below w1.heap.size w1 w3 := by rw [hw3]; exact ((Below.refl _ _).alloc (Nat.le_refl _) _).alloc (by simp) _
  have hz3 : w3.heap.size = w1.heap.size + 2 := by rw [hw3]; simp
  have hB0 : Below w.heap.size w w3 := (((Below.refl _ _).alloc (Nat.le_refl _) _).trans (Hb.out.mono (by simp))).trans (hB1.mono (by omega))
  have hrd : Rd w3 w1.heap.size A1 c1 ys 0 false 0 := by
    refine ⟨?_, (RV.of_own Hown.out).below hB1, fun b o e h => ?_, ?_, Nat.zero_le _⟩
    · rw [hw3]; exact (Blk.new w1 _ _).alloc _
    · have := (Own.row Hown.out b (by rw [e]; rfl)).2
      omega
    · exact own_caps' Hown.out
  have hge : w3.cell? ⟨w.heap.size, 0, none⟩ = some (.int .i64 0) := by
    rw [(bcell hB1).1 _ _ (by omega), (bcell Hb.out).1 _ _ (by simp)]
    exact (Blk.new w _ #[_]).cell 0
  have hgr : w3.cell? ⟨w1.heap.size + 1, 0, none⟩ = some (.pointer (some ⟨w1.heap.size, 0, none⟩)) := by
    rw [hw3]
    have h := (Blk.new (w1.alloc (.cells #[.slice A1 ys.length c1, .int .i64 0, .bool false, .int .i64 0] 105)) 49 #[.pointer (some ⟨w1.heap.size, 0, none⟩)]).cell 0
    rw [World.size_alloc] at h
    exact h
  have hA1 : ∀ b o, A1 = some ⟨b, o, none⟩ → w.heap.size < b ∧ b < w3.heap.size := fun b o e => by
    have h := Own.row Hown.out b (by rw [e]; rfl)
    simp at h
    omega
  have hgeB : Blk w3 w.heap.size 37 #[.int .i64 0] := ((Blk.new w _ _).below Hb.out (by simp)).below hB1 (by omega)
  refine (hbody w1.heap.size c1 A1 w3 (by omega) hB0 hrd hA1).mono ?_
  rintro e w4 ⟨at_, o, f, hrd4, hT, ho4, hend⟩
  have hz4 := ho4.size
  have hgeB4 := hgeB.only ho4 (by rintro (h | h); omega; have := hS _ h; omega)
  have hfe4 := hgeB4.frozen 0
  have hge4 : w4.cell? ⟨w.heap.size, 0, none⟩ = some (.int .i64 0) := hgeB4.cell 0
  have hgr4 : w4.cell? ⟨w1.heap.size + 1, 0, none⟩ = some (.pointer (some ⟨w1.heap.size, 0, none⟩)) := by
    rw [(ocell ho4).1 _ _ (by omega) (by rintro (h | h); omega; have := hS _ h; omega)]
    exact hgr
  have hOw : Only S w w4 := (Only.of_fresh hB0).more ho4 fun b hb h => h.resolve_left (by omega)
  have Hrd4 := Lib.hid hrd4
  have HT := Lib.hid hT
  have HOw := Lib.hid hOw
  have HA1 := Lib.hid hA1
  clear hbody hcf hrd hrd4 hT hOw ho4 hgeB hgeB4 hA1 hw3 hB1 hB0
  rcases hend with rfl | ⟨rfl, hf⟩
  · go_wp2_with fail
    have hO5 : Only (fun b => b = w1.heap.size ∨ b = w.heap.size) w4 (w4.setCell ⟨w.heap.size, 0, none⟩ (.int .i64 0)) := (Only.refl _ w4).setCell (p := ⟨w.heap.size, 0, none⟩) (.inl (.inr rfl)) _
    have hrd5 : Rd (w4.setCell ⟨w.heap.size, 0, none⟩ (.int .i64 0)) w1.heap.size A1 c1 ys at_ o f :=
      Hrd4.out.only ((Only.refl (fun b => b = w.heap.size) w4).setCell (p := ⟨w.heap.size, 0, none⟩) (.inl rfl) _) (by omega) fun b o e h => by have := HA1.out b o e; omega
    refine leaves_cons (f := 61) (args := #[.pointer (some ⟨w1.heap.size + 1, 0, none⟩), .pointer (some ⟨w.heap.size, 0, none⟩)]) (by simp) (by simp [go_sem]) ?_
    refine (close_ret (w1.heap.size + 1) w.heap.size w1.heap.size c1 at_ A1 ys o f _ hrd5 ?_ (World.cell?_setCell_same _ _ _ hge4) ?_ (by omega) fun b o e h => by have := HA1.out b o e; omega).mono ?_
    · rw [(ocell ((Only.refl (fun b => b = w.heap.size) w4).setCell (p := ⟨w.heap.size, 0, none⟩) (.inl rfl) _)).1 _ _ (by omega) (by omega)]
      exact hgr4
    · simpa using hfe4
    rintro e u' w6 ⟨rfl, rfl, hc⟩
    refine ⟨.int .i64 (readE f at_ ys.length), ?_, ?_⟩
    · have hcell := hc.cell
      have hgl6 := block_lt_of_cell hcell
      simp [results, Try.results30, go_sem, hcell]
    · have ho6 := hc.only
      refine ⟨w1.heap.size, at_, o, f, w4, by omega, HT.out, rfl, ?_, ?_⟩
      · exact (hO5.trans (ho6.mono fun _ _ h => h))
      · exact HOw.out.more ((hO5.trans (ho6.mono fun _ _ h => h))) fun b hb h => by rcases h with h | h <;> omega
  · go_wp2_with fail
    refine leaves_cons (f := 61) (args := #[.pointer (some ⟨w1.heap.size + 1, 0, none⟩), .pointer (some ⟨w.heap.size, 0, none⟩)]) (by simp) (by simp [go_sem]) ?_
    refine (close_pan (w1.heap.size + 1) w.heap.size w1.heap.size c1 at_ A1 ys o f _ Hrd4.out hgr4 hge4 hfe4 (by omega) fun b o e h => by have := HA1.out b o e; omega).mono ?_
    rintro e u' w6 ⟨rfl, rfl, hc⟩
    refine ⟨.int .i64 (readE f at_ ys.length), ?_, ?_⟩
    · have hcell := hc.cell
      have hgl6 := block_lt_of_cell hcell
      simp [results, Try.results30, go_sem, hcell]
    · have ho6 := hc.only
      refine ⟨w1.heap.size, at_, o, f, w4, by omega, HT.out, rfl, ?_, ?_⟩
      · exact ho6
      · exact HOw.out.more (ho6) fun b hb h => by rcases h with h | h <;> omega
end

section
/- What the Writer put is what the Reader takes: the laws of the forms, in plain Lean. -/

theorem foldl_be (l : List UInt8) : ∀ a : Nat, l.foldl (fun u (c : UInt8) => u * 256 + c.toNat) a = a * 256 ^ l.length + beNat l := by
  induction l with
  | nil => intro a; simp [beNat]
  | cons x l ih =>
    intro a
    have h2 : beNat (x :: l) = x.toNat * 256 ^ l.length + beNat l := by
      show l.foldl _ (0 * 256 + x.toNat) = _
      rw [ih, Nat.zero_mul, Nat.zero_add]
    rw [List.foldl_cons, ih, h2, List.length_cons, Nat.pow_succ, Nat.add_mul, Nat.mul_assoc, Nat.mul_comm 256, Nat.add_assoc]
theorem beNat_cons (x : UInt8) (l : List UInt8) : beNat (x :: l) = x.toNat * 256 ^ l.length + beNat l := by
  show l.foldl _ (0 * 256 + x.toNat) = _
  rw [foldl_be, Nat.zero_mul, Nat.zero_add]
theorem pow_256 (k : Nat) : (2 : Nat) ^ (8 * k) = 256 ^ k := by rw [Nat.pow_mul]
theorem beNat_be (u k : Nat) : beNat (beBytes u k) = u % 256 ^ k := by
  induction k with
  | zero => simp [beBytes, beNat, Nat.mod_one]
  | succ k ih =>
    rw [beBytes, beNat_cons, ih, length_beBytes, toNat_ofNat8, pow_256, Nat.pow_succ, Nat.mod_mul, Nat.mul_comm, Nat.add_comm]
theorem byteCnt_spec (u n : Nat) (h : u < 256 ^ n) : u < 256 ^ byteCnt u n ∧ (0 < u → 0 < byteCnt u n ∧ 0 < u / 256 ^ (byteCnt u n - 1)) := by
  induction n with
  | zero => simp [byteCnt] at h ⊢; omega
  | succ n ih =>
    by_cases h0 : u / 2 ^ (8 * n) = 0
    · rw [byteCnt_step u n h0]
      refine ih ?_
      rw [pow_256] at h0
      rcases Nat.div_eq_zero_iff.1 h0 with h1 | h1
      · have := Nat.pow_pos (n := n) (show 0 < 256 by decide); omega
      · exact h1
    · rw [byteCnt_stop u n h0]
      refine ⟨h, fun _ => ⟨by omega, ?_⟩⟩
      rw [Nat.add_sub_cancel, ← pow_256]
      exact Nat.pos_of_ne_zero h0
theorem getD_mid (pre l rest : List UInt8) (j : Nat) (h : j < l.length) : (pre ++ (l ++ rest)).getD (pre.length + j) 0 = l.getD j 0 := by
  rw [List.getD_eq_getElem?_getD, List.getD_eq_getElem?_getD, List.getElem?_append_right (by omega), Nat.add_sub_cancel_left, List.getElem?_append_left h]
/-- A number's form is read as that number. -/
theorem number_form (pre rest : List UInt8) (u : Nat) (hu : u < 18446744073709551616) : numberL (pre ++ (formL u ++ rest)) pre.length = .ok (u, (formL u).length) := by
  by_cases h : u < 248
  · have e : formL u = [UInt8.ofNat u] := by unfold formL; rw [if_pos h]
    have h0 : ((pre ++ (formL u ++ rest)).getD pre.length 0).toNat = u := by
      have := getD_mid pre (formL u) rest 0 (by rw [e]; simp)
      rw [Nat.add_zero] at this
      rw [this, e]
      show (UInt8.ofNat u).toNat = u
      rw [toNat_ofNat8]; omega
    unfold numberL
    rw [if_neg (by rw [List.length_append, List.length_append, e]; simp), h0, if_pos h, e]
    rfl
  · obtain ⟨k, hk⟩ : ∃ k, k = byteCnt u 8 := ⟨_, rfl⟩
    have hk8 : k ≤ 8 := by rw [hk]; exact byteCnt_le u 8
    have h256 : (256 : Nat) ^ 8 = 18446744073709551616 := by decide
    obtain ⟨h1, h2⟩ := byteCnt_spec u 8 (by omega)
    obtain ⟨h3, h4⟩ := h2 (by omega)
    rw [← hk] at h1 h3 h4
    have e : formL u = UInt8.ofNat (247 + k) :: beBytes u k := by unfold formL; rw [if_neg h, ← hk]
    have hl : (formL u).length = 1 + k := by rw [e, List.length_cons, length_beBytes]; omega
    have h0 : ((pre ++ (formL u ++ rest)).getD pre.length 0).toNat = 247 + k := by
      have := getD_mid pre (formL u) rest 0 (by omega)
      rw [Nat.add_zero] at this
      rw [this, e]
      show (UInt8.ofNat (247 + k)).toNat = 247 + k
      rw [toNat_ofNat8]; omega
    obtain ⟨j, rfl⟩ : ∃ j, k = j + 1 := ⟨k - 1, by omega⟩
    have h5 : ((pre ++ (formL u ++ rest)).getD (pre.length + 1) 0).toNat = u / 256 ^ j := by
      rw [getD_mid pre (formL u) rest 1 (by omega), e]
      show (UInt8.ofNat (u / 2 ^ (8 * j))).toNat = _
      rw [toNat_ofNat8, pow_256]
      have : u / 256 ^ j < 256 := by
        rw [Nat.div_lt_iff_lt_mul (Nat.pow_pos (by decide))]
        rw [Nat.pow_succ, Nat.mul_comm] at h1
        exact h1
      exact Nat.mod_eq_of_lt this
    have h6 : ((pre ++ (formL u ++ rest)).drop (pre.length + 1)).take (j + 1) = beBytes u (j + 1) := by
      have e2 : pre ++ (formL u ++ rest) = (pre ++ [UInt8.ofNat (247 + (j + 1))]) ++ (beBytes u (j + 1) ++ rest) := by rw [e]; simp
      rw [e2, List.drop_append_of_le_length (by simp), List.drop_eq_nil_of_le (by simp), List.nil_append, List.take_append_of_le_length (by rw [length_beBytes]; omega), List.take_of_length_le (by rw [length_beBytes]; omega)]
    have h7 : beNat (beBytes u (j + 1)) = u := by rw [beNat_be, Nat.mod_eq_of_lt h1]
    have hlen : (pre ++ (formL u ++ rest)).length = pre.length + (1 + (j + 1) + rest.length) := by rw [List.length_append, List.length_append, hl]
    unfold numberL
    rw [if_neg (by omega), h0, if_neg (by omega), if_neg (by omega), h5, show 247 + (j + 1) - 247 = j + 1 from by omega, h6, h7, if_neg (by
      rw [Nat.add_sub_cancel] at h4
      omega), hl]
theorem unfold_fold (n : Int) : unfoldN (foldN n) = n := by
  unfold unfoldN foldN
  split <;> split <;> omega
theorem rNum_form (pre rest : List UInt8) (u : Nat) (hu : u < 9223372036854775808) : rNumL (pre ++ (formL u ++ rest)) pre.length = .ok (u, (formL u).length) := by
  unfold rNumL
  rw [number_form pre rest u (by omega)]
  exact if_neg (by omega)
theorem rBool_form (pre rest : List UInt8) (b : Bool) : rBoolL (pre ++ (boolL b ++ rest)) pre.length = .ok b := by
  have h := getD_mid pre (boolL b) rest 0 (by simp [boolL])
  rw [Nat.add_zero] at h
  unfold rBoolL
  rw [if_neg (by simp [boolL]), h]
  cases b <;> rfl
theorem rRaw_form (pre ys rest : List UInt8) : rRawL (pre ++ (ys ++ rest)) pre.length (ys.length : Int) = .ok ys := by
  unfold rRawL
  rw [if_neg (by omega), if_neg (by rw [List.length_append, List.length_append]; omega), Int.toNat_natCast, List.drop_append_of_le_length (Nat.le_refl _), List.drop_eq_nil_of_le (Nat.le_refl _), List.nil_append,
    List.take_append_of_le_length (Nat.le_refl _), List.take_length]
theorem rBytes_form (pre ys rest : List UInt8) (h : ys.length < 9223372036854775808) : rBytesL (pre ++ ((formL ys.length ++ ys) ++ rest)) pre.length = .ok (ys, pre.length + (formL ys.length ++ ys).length) := by
  have h1 := rNum_form pre (ys ++ rest) ys.length h
  rw [← List.append_assoc (formL ys.length)] at h1
  unfold rBytesL
  rw [h1]
  dsimp only
  have e : pre ++ ((formL ys.length ++ ys) ++ rest) = (pre ++ formL ys.length) ++ (ys ++ rest) := by simp
  have hl : (pre ++ formL ys.length).length = pre.length + (formL ys.length).length := List.length_append
  rw [if_neg (by rw [List.length_append, List.length_append, List.length_append]; omega)]
  rw [e, ← hl, List.drop_append_of_le_length (Nat.le_refl _), List.drop_eq_nil_of_le (Nat.le_refl _), List.nil_append, List.take_append_of_le_length (Nat.le_refl _), List.take_length, List.length_append, List.length_append, Nat.add_assoc]
end

section
/- The forms there and back, and their lengths: plain laws. -/
open Go.RowKit

theorem beBytes_add (k : Nat) : ∀ c u : Nat, beBytes (c * 256 ^ k + u) k = beBytes u k := by
  induction k with
  | zero => intro c u; rfl
  | succ k ih =>
    intro c u
    have hp : 0 < 256 ^ k := Nat.pow_pos (by decide)
    have e1 : (c * 256 ^ (k + 1) + u) / 256 ^ k = c * 256 + u / 256 ^ k := by
      rw [Nat.pow_succ, Nat.mul_comm (256 ^ k) 256, ← Nat.mul_assoc, Nat.add_comm, Nat.add_mul_div_right _ _ hp, Nat.add_comm]
    have e2 : beBytes (c * 256 ^ (k + 1) + u) k = beBytes u k := by
      rw [Nat.pow_succ, Nat.mul_comm (256 ^ k) 256, ← Nat.mul_assoc]
      exact ih _ _
    show UInt8.ofNat ((c * 256 ^ (k + 1) + u) / 2 ^ (8 * k)) :: beBytes (c * 256 ^ (k + 1) + u) k = UInt8.ofNat (u / 2 ^ (8 * k)) :: beBytes u k
    rw [e2, pow_256, e1]
    congr 1
    apply UInt8.toNat_inj.1
    rw [toNat_ofNat8, toNat_ofNat8]
    omega
theorem beBytes_be (l : List UInt8) : beBytes (beNat l) l.length = l := by
  induction l with
  | nil => rfl
  | cons x l ih =>
    have hp : 0 < 256 ^ l.length := Nat.pow_pos (by decide)
    have hlt := beNat_lt l
    rw [beNat_cons]
    show UInt8.ofNat ((x.toNat * 256 ^ l.length + beNat l) / 2 ^ (8 * l.length)) :: beBytes (x.toNat * 256 ^ l.length + beNat l) l.length = x :: l
    rw [beBytes_add, ih, pow_256, Nat.add_comm, Nat.add_mul_div_right _ _ hp, Nat.div_eq_of_lt hlt, Nat.zero_add]
    congr 1
    apply UInt8.toNat_inj.1
    rw [toNat_ofNat8]
    have := x.toNat_lt
    omega
theorem byteCnt_of (u m : Nat) (h1 : 256 ^ m ≤ u) (h2 : u < 256 ^ (m + 1)) : ∀ n, m + 1 ≤ n → byteCnt u n = m + 1 := by
  intro n
  induction n with
  | zero => intro h; omega
  | succ n ih =>
    intro h
    rcases Nat.lt_or_ge m n with hlt | hge
    · rw [byteCnt_step u n (by
        rw [pow_256]
        refine Nat.div_eq_of_lt (Nat.lt_of_lt_of_le h2 (Nat.pow_le_pow_right (by omega) (by omega))))]
      exact ih hlt
    · obtain rfl : n = m := by omega
      rw [byteCnt_stop u n (by
        rw [pow_256]
        intro h0
        rcases Nat.div_eq_zero_iff.1 h0 with h3 | h3
        · have := Nat.pow_pos (n := n) (show 0 < 256 by decide); omega
        · omega)]
theorem take1_drop (bs : List UInt8) (a : Nat) (h : a < bs.length) : (bs.drop a).take 1 = [bs.getD a 0] := by
  rw [List.drop_eq_getElem_cons h, List.getD_eq_getElem?_getD, List.getElem?_eq_getElem h]
  rfl
set_option maxRecDepth 100000 in
theorem number_back {bs : List UInt8} {a u k : Nat} (h : numberL bs a = .ok (u, k)) : (bs.drop a).take k = formL u := by
  have hx := (bs.getD a 0).toNat_lt
  unfold numberL at h
  split at h
  · cases h
  rename_i h0
  split at h
  · rename_i h1
    injection h with h
    injection h with e1 e2
    subst e1 e2
    rw [take1_drop bs a (by omega)]
    unfold formL
    rw [if_pos h1]
    congr 1
    apply UInt8.toNat_inj.1
    rw [toNat_ofNat8]
    omega
  split at h
  · cases h
  split at h
  · cases h
  rename_i h1 h2 h3
  injection h with h
  injection h with e1 e2
  obtain ⟨m, hm⟩ : ∃ m, (bs.getD a 0).toNat - 247 = m + 1 := ⟨(bs.getD a 0).toNat - 247 - 1, by omega⟩
  rw [hm] at e1 e2 h2 h3
  obtain ⟨l, hl⟩ : ∃ l, l = (bs.drop (a + 1)).take (m + 1) := ⟨_, rfl⟩
  have hll : l.length = m + 1 := by rw [hl, List.length_take, List.length_drop]; omega
  rw [← hl] at e1 h3
  have h4 : ¬ (bs.getD (a + 1) 0).toNat = 0 ∧ ¬ beNat l < 248 := by
    constructor
    · exact fun h => h3 (.inl h)
    · exact fun h => h3 (.inr h)
  have hbl := beNat_lt l
  rw [hll] at hbl
  have hge : 256 ^ m ≤ beNat l := by
    cases l with
    | nil => simp at hll
    | cons x t =>
      rw [beNat_cons]
      have ht : t.length = m := by simpa using hll
      have hx0 : x = bs.getD (a + 1) 0 := by
        rw [List.drop_eq_getElem_cons (by omega), List.take_succ_cons] at hl
        injection hl with h5
        rw [h5, List.getD_eq_getElem?_getD, List.getElem?_eq_getElem (by omega)]
        rfl
      have : 1 ≤ x.toNat := by rw [hx0]; omega
      rw [ht]
      have := Nat.mul_le_mul_right (256 ^ m) this
      omega
  have hcnt := byteCnt_of (beNat l) m hge hbl 8 (by omega)
  subst e1
  unfold formL
  rw [if_neg h4.2, hcnt, ← e2, List.drop_eq_getElem_cons (by omega), Nat.add_comm 1, List.take_succ_cons, ← hl]
  have e3 := beBytes_be l
  rw [hll] at e3
  rw [e3]
  congr 1
  apply UInt8.toNat_inj.1
  rw [toNat_ofNat8]
  rw [List.getD_eq_getElem?_getD, List.getElem?_eq_getElem (by omega)] at hm hx
  simp only [Option.getD_some] at hm hx
  omega
/-- A form's length: k bytes behind the first. -/
theorem form_len (l : List UInt8) (hl : 1 ≤ l.length) (h8 : l.length ≤ 8) : (formL (beNat l)).length = 1 + l.length ↔ ¬ ((l.getD 0 0).toNat = 0 ∨ beNat l < 248) := by
  rw [length_formL]
  cases l with
  | nil => simp at hl
  | cons x t =>
    have hlt := beNat_lt (x :: t)
    have hc := beNat_cons x t
    have ht := beNat_lt t
    have h64 : beNat (x :: t) < 256 ^ 8 := Nat.lt_of_lt_of_le hlt (Nat.pow_le_pow_right (by omega) h8)
    rw [List.length_cons] at hlt hl h8 ⊢
    rw [show (x :: t).getD 0 0 = x from rfl]
    by_cases h248 : beNat (x :: t) < 248
    · rw [if_pos h248]
      constructor
      · intro h; omega
      · intro h; exact absurd (.inr h248) h
    · rw [if_neg h248]
      by_cases hx : x.toNat = 0
      · rw [hx, Nat.zero_mul, Nat.zero_add] at hc
        constructor
        · intro h
          have h2 := (byteCnt_spec (beNat (x :: t)) 8 h64).2 (by omega)
          have h3 : byteCnt (beNat (x :: t)) 8 - 1 = t.length := by omega
          rw [h3, hc] at h2
          have h4 := Nat.div_eq_of_lt ht
          omega
        · intro h; exact absurd (.inl hx) h
      · have hge : 256 ^ t.length ≤ beNat (x :: t) := by
          have := Nat.mul_le_mul_right (256 ^ t.length) (show 1 ≤ x.toNat by omega)
          omega
        have := byteCnt_of (beNat (x :: t)) t.length hge hlt 8 h8
        constructor
        · intro _ h; omega
        · intro _; omega
end
end Go.Proofs.Ytefaapcekbgjoaa
