/- SHA-256 in plain Lean, on words; and the walk's arithmetic on words as rules. -/
import Derived.Test.YtmlkfkpffbbfaaaShaW
namespace Go.Proofs.Ytmlkfkpffbbfaaa
open Go.RowKit

structure St8 where
  (a b c d e f g h : UInt32)
def St8.toL (s : St8) : List UInt32 := [s.a, s.b, s.c, s.d, s.e, s.f, s.g, s.h]
def st0 : St8 := ⟨0x6a09e667, 0xbb67ae85, 0x3c6ef372, 0xa54ff53a, 0x510e527f, 0x9b05688c, 0x1f83d9ab, 0x5be0cd19⟩

/-- The operations on words, under names that the walk's simp does not open. -/
def wadd (a b : UInt32) : UInt32 := a + b
def wxor (a b : UInt32) : UInt32 := a ^^^ b
def wand (a b : UInt32) : UInt32 := a &&& b
def wnot (a : UInt32) : UInt32 := ~~~a
def wsh3 (x : UInt32) : UInt32 := UInt32.ofNat (x.toNat / 8)
def wsh10 (x : UInt32) : UInt32 := UInt32.ofNat (x.toNat / 1024)
/-- The first k bytes of the word t, the highest first. -/
def wordK (b : List UInt8) (t : Nat) : Nat → UInt32
  | 0 => 0
  | k + 1 => UInt32.ofNat ((wordK b t k).toNat * 256) ||| UInt32.ofNat (b.getD (4 * t + k) 0).toNat
def mixX (x : UInt32) : UInt32 := wxor (wxor (rotr x 7) (rotr x 18)) (wsh3 x)
def mixY (y : UInt32) : UInt32 := wxor (wxor (rotr y 17) (rotr y 19)) (wsh10 y)
def nextW (ws : List UInt32) (t : Nat) : UInt32 := wadd (wadd (wadd (ws[t - 16]?.getD 0) (mixX (ws[t - 15]?.getD 0))) (ws[t - 7]?.getD 0)) (mixY (ws[t - 2]?.getD 0))
/-- The first k words of a block. -/
def sched (b : List UInt8) : Nat → List UInt32
  | 0 => []
  | k + 1 => sched b k ++ [if k < 16 then wordK b k 4 else nextW (sched b k) k]
theorem length_sched (b : List UInt8) (k : Nat) : (sched b k).length = k := by
  induction k with
  | zero => rfl
  | succ k ih => simp [sched, ih]
def stepP (s : St8) (k w : UInt32) : UInt32 := wadd (wadd (wadd (wadd s.h (wxor (wxor (rotr s.e 6) (rotr s.e 11)) (rotr s.e 25))) (wxor (wand s.e s.f) (wand (wnot s.e) s.g))) k) w
def stepQ (s : St8) : UInt32 := wadd (wxor (wxor (rotr s.a 2) (rotr s.a 13)) (rotr s.a 22)) (wxor (wxor (wand s.a s.b) (wand s.a s.c)) (wand s.b s.c))
def step8 (s : St8) (k w : UInt32) : St8 := ⟨wadd (stepP s k w) (stepQ s), s.a, s.b, s.c, wadd s.d (stepP s k w), s.e, s.f, s.g⟩
def run8 (s : St8) (ws : List UInt32) : Nat → St8
  | 0 => s
  | k + 1 => step8 (run8 s ws k) (sumK[k]?.getD 0) (ws[k]?.getD 0)
def St8.add (s v : St8) : St8 := ⟨wadd s.a v.a, wadd s.b v.b, wadd s.c v.c, wadd s.d v.d, wadd s.e v.e, wadd s.f v.f, wadd s.g v.g, wadd s.h v.h⟩
def compress (s : St8) (b : List UInt8) : St8 := s.add (run8 s (sched b 64) 64)

theorem shr3 (x : UInt32) : (x.toNat : Int) / 8 = ((wsh3 x).toNat : Int) := by
  exact shr32 x 3
theorem shr10 (x : UInt32) : (x.toNat : Int) / 1024 = ((wsh10 x).toNat : Int) := by
  exact shr32 x 10
theorem shl8 (x : UInt32) : (x.toNat : Int) * 256 % 4294967296 = ((UInt32.ofNat (x.toNat * 256)).toNat : Int) := by
  rw [← shl32 x 8]
  rfl
theorem not32 (x : UInt32) : 4294967295 - (x.toNat : Int) = ((wnot x).toNat : Int) := by
  have h := w32_lt x
  have e : UInt32.size = 4294967296 := rfl
  unfold wnot
  rw [UInt32.toNat_not]
  omega
theorem xor_max (x : UInt32) : bits .xor .u32 IntKind.u32.max (x.toNat : Int) = ((wnot x).toNat : Int) := by
  have h : bits .xor .u32 ((4294967295 : UInt32).toNat : Int) (x.toNat : Int) = (((4294967295 : UInt32) ^^^ x).toNat : Int) := bits_xor32 _ _
  have e : (4294967295 : UInt32) ^^^ x = wnot x := by
    apply UInt32.toBitVec_inj.1
    show (BitVec.allOnes 32) ^^^ x.toBitVec = ~~~x.toBitVec
    exact BitVec.allOnes_xor
  rw [← e]
  exact h
theorem byte32 (u : UInt8) : (u.toNat : Int) = ((UInt32.ofNat u.toNat).toNat : Int) := by
  have h := u.toNat_lt
  rw [UInt32.toNat_ofNat_of_lt' (by show _ < 4294967296; omega)]
theorem wadd32 (a b : UInt32) : ((a.toNat : Int) + (b.toNat : Int)) % 4294967296 = ((wadd a b).toNat : Int) := add32 a b
theorem wxor32 (a b : UInt32) : bits .xor .u32 a.toNat b.toNat = ((wxor a b).toNat : Int) := bits_xor32 a b
theorem wand32 (a b : UInt32) : bits .and .u32 a.toNat b.toNat = ((wand a b).toNat : Int) := bits_and32 a b
theorem wadd_int (a b : UInt32) : ((wadd a b).toNat : Int) = ((a.toNat : Int) + (b.toNat : Int)) % 4294967296 := (wadd32 a b).symm
theorem p_eq (d x c k w : UInt32) : ((d.toNat : Int) + ((x.toNat : Int) + (c.toNat : Int) + (k.toNat : Int) + (w.toNat : Int))) % 4294967296 = ((wadd d (wadd (wadd (wadd x c) k) w)).toNat : Int) := by
  simp only [wadd_int]; omega
theorem q_eq (x c k w q : UInt32) : ((x.toNat : Int) + (c.toNat : Int) + (k.toNat : Int) + (w.toNat : Int) + (q.toNat : Int)) % 4294967296 = ((wadd (wadd (wadd (wadd x c) k) w) q).toNat : Int) := by
  simp only [wadd_int]; omega
theorem getD_word (l : List UInt32) (t : Nat) (h : t < l.length) : l[t]?.getD 0 = l[t] := by
  rw [List.getElem?_eq_getElem h]; rfl
theorem mixed_set (zs ws : List UInt32) (i : Nat) (h : i < zs.length) (hw : ws.length = zs.length) : (zs.take i ++ ws.drop i).set i zs[i] = zs.take (i + 1) ++ ws.drop (i + 1) := by
  have hl : (zs.take i).length = i := by rw [List.length_take]; omega
  rw [List.set_append_right _ _ (by omega), hl, Nat.sub_self, List.drop_eq_getElem_cons (by omega), List.set_cons_zero, List.take_succ_eq_append_getElem h, List.append_assoc]
  rfl
theorem length_mixed (zs ws : List UInt32) (i : Nat) (h : i ≤ zs.length) (hw : ws.length = zs.length) : (zs.take i ++ ws.drop i).length = zs.length := by
  rw [List.length_append, List.length_take, List.length_drop]; omega
theorem add_at (s v : St8) (i : Nat) (h : i < 8) : (s.add v).toL[i] = wadd s.toL[i] v.toL[i] := by
  match i, h with
  | 0, _ => rfl
  | 1, _ => rfl
  | 2, _ => rfl
  | 3, _ => rfl
  | 4, _ => rfl
  | 5, _ => rfl
  | 6, _ => rfl
  | 7, _ => rfl
theorem hash_set (ws : List UInt32) (begun : Bool) (rest : List UInt8) (n : Nat) (i : Nat) (x : UInt32) (h : i < ws.length) : (hashL ws begun rest n).set i (wv x) = hashL (ws.set i x) begun rest n := by
  unfold hashL
  rw [List.set_append_left _ _ (by simp; omega), List.set_append_left _ _ (by simp; omega), List.set_append_left _ _ (by simpa using h), List.map_set]
theorem hash_begun (ws : List UInt32) (begun b2 : Bool) (rest : List UInt8) (n : Nat) (h : ws.length = 8) : (hashL ws begun rest n).set 8 (.bool b2) = hashL ws b2 rest n := by
  unfold hashL
  rw [List.set_append_left _ _ (by simp [h]), List.set_append_left _ _ (by simp [h]), List.set_append_right _ _ (by simp [h])]
  simp [h]
theorem mixed_add (s v : St8) (ws : List UInt32) (t : Nat) (h : t < 8) (hw : ws.length = 8) (begun : Bool) (rest : List UInt8) (n : Nat) :
    (hashL ((s.add v).toL.take t ++ ws.drop t) begun rest n).set t (wv (wadd (s.toL[t]'h) (v.toL[t]'h))) = hashL ((s.add v).toL.take (t + 1) ++ ws.drop (t + 1)) begun rest n := by
  have hz : t < (s.add v).toL.length := h
  rw [hash_set _ _ _ _ _ _ (by rw [length_mixed _ _ _ (by show t ≤ 8; omega) hw]; exact h), ← mixed_set (s.add v).toL ws t hz hw]
  congr 2
  exact (add_at s v t h).symm
theorem p_step (s : St8) (k w : UInt32) : ((s.d.toNat : Int) + (((wadd s.h (wxor (wxor (rotr s.e 6) (rotr s.e 11)) (rotr s.e 25))).toNat : Int) + ((wxor (wand s.e s.f) (wand (wnot s.e) s.g)).toNat : Int) + (k.toNat : Int) + (w.toNat : Int))) % 4294967296 = ((wadd s.d (stepP s k w)).toNat : Int) :=
  p_eq _ _ _ _ _
theorem q_step (s : St8) (k w : UInt32) : (((wadd s.h (wxor (wxor (rotr s.e 6) (rotr s.e 11)) (rotr s.e 25))).toNat : Int) + ((wxor (wand s.e s.f) (wand (wnot s.e) s.g)).toNat : Int) + (k.toNat : Int) + (w.toNat : Int) + ((wadd (wxor (wxor (rotr s.a 2) (rotr s.a 13)) (rotr s.a 22)) (wxor (wxor (wand s.a s.b) (wand s.a s.c)) (wand s.b s.c))).toNat : Int)) % 4294967296 = ((wadd (stepP s k w) (stepQ s)).toNat : Int) :=
  q_eq _ _ _ _ _
theorem step_blk {w : World} {g : Nat} {ty : TypeId} {s : St8} (h : Blk w g ty ((St8.mk s.a s.a s.b s.c s.d s.e s.f s.g).toL.map wv).toArray) (k x : UInt32) :
    Blk ((w.setCell ⟨g, 4, none⟩ (.int .u32 ((wadd s.d (stepP s k x)).toNat : Int))).setCell ⟨g, 0, none⟩ (.int .u32 ((wadd (stepP s k x) (stepQ s)).toNat : Int))) g ty ((step8 s k x).toL.map wv).toArray :=
  (h.setL 4 (wv (wadd s.d (stepP s k x)))).setL 0 (wv (wadd (stepP s k x) (stepQ s)))
end Go.Proofs.Ytmlkfkpffbbfaaa
