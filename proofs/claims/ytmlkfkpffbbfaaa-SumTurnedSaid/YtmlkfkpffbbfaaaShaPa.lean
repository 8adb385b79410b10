/- Parse of the program. -/
import Derived.Test.YtmlkfkpffbbfaaaShaTx
import Derived.Test.YtmlkfkpffbbfaaaShaCu
import Derived.Lib.SlBytesConst
namespace Go.Proofs.Ytmlkfkpffbbfaaa
open Go.RowKit

def digitsL : List UInt8 := [48, 49, 50, 51, 52, 53, 54, 55, 56, 57, 97, 98, 99, 100, 101, 102]
/-- A digit's value, or -1. -/
def hexI (c : UInt8) : Int := Lib.indexByte digitsL c
def stepB (x : UInt8) (n : Nat) : UInt8 := UInt8.ofNat (x.toNat * 16 + n)
/-- The digest while the text is read: k digits are in. -/
def parseK (s : List UInt8) : Nat → List UInt8
  | 0 => zero32
  | k + 1 => (parseK s k).set (k / 2) (stepB ((parseK s k).getD (k / 2) 0) (hexI (s.getD k 0)).toNat)
theorem length_parseK (s : List UInt8) (k : Nat) : (parseK s k).length = 32 := by
  induction k with
  | zero => rfl
  | succ k ih => rw [parseK, List.length_set, ih]
def allHex (s : List UInt8) : Bool := s.all fun c => decide (0 ≤ hexI c)
/-- What Parse answers. -/
def parseV (s : List UInt8) : Value := if s.length = 64 ∧ allHex s = true then .tuple #[aggB (parseK s 64), .int .i64 0] else .tuple #[aggB zero32, .int .i64 21]
theorem hexI_range (c : UInt8) : -1 ≤ hexI c ∧ hexI c < 16 := by
  have h : ∀ n, n < 256 → -1 ≤ hexI (UInt8.ofNat n) ∧ hexI (UInt8.ofNat n) < 16 := by decide +kernel
  have := h c.toNat c.toNat_lt
  simpa using this
theorem or_nib (x : UInt8) (n : Nat) (h : n < 16) : bits .or .u8 ((x.toNat : Int) * 16 % 256) (n : Int) = ((stepB x n).toNat : Int) := by
  have e : bits .or .u8 ((x.toNat : Int) * 16 % 256) (n : Int) = IntKind.u8.wrap (((BitVec.ofInt 8 ((x.toNat : Int) * 16 % 256)) ||| (BitVec.ofInt 8 (n : Int))).toNat : Int) := rfl
  have e1 : (x.toNat : Int) * 16 % 256 = ((x.toNat * 16 % 256 : Nat) : Int) := by omega
  rw [e, e1, BitVec.ofInt_natCast, BitVec.ofInt_natCast, IntKind.wrap_u8]
  have e2 : ((BitVec.ofNat 8 (x.toNat * 16 % 256)) ||| (BitVec.ofNat 8 n)).toNat = (x.toNat * 16 + n) % 256 := by
    rw [BitVec.toNat_or, BitVec.toNat_ofNat, BitVec.toNat_ofNat, Nat.mod_mod, Nat.mod_eq_of_lt (a := n) (b := 2 ^ 8) (by omega)]
    have h3 : x.toNat * 16 % 2 ^ 8 = 2 ^ 4 * (x.toNat % 16) := by omega
    rw [show (256 : Nat) = 2 ^ 8 from rfl, h3, ← Nat.two_pow_add_eq_or_of_lt (i := 4) (by omega) (x.toNat % 16)]
    omega
  rw [e2]
  unfold stepB
  rw [UInt8.toNat_ofNat']
  omega
theorem indexB_any (xs : List UInt8) (A : Option Addr) (cp : Nat) (c : UInt8) (w : World) (hr : RV w A (xs.map bv)) :
    Calls Try.prog 42 #[.slice A xs.length cp, .int .u8 (c.toNat : Int)] w fun e w' => e = .returned (.int .i64 (Lib.indexByte xs c)) ∧ w' = w := by
  have hx := run_callFunc_extern (P := Try.prog) (f := 49) Try.func49 (by kernel_rfl) (by kernel_rfl) (by kernel_rfl) (e := Extern.BytealgIndexByte.indexByte) (by kernel_rfl) #[.slice A xs.length cp, .int .u8 (c.toNat : Int)] w
  have hi : (Extern.BytealgIndexByte.indexByte #[.slice A xs.length cp, .int .u8 (c.toNat : Int)]).run Try.prog w = .ok (.int .i64 (Lib.indexByte xs c)) w := by
    have hs := Lib.run_indexByteString (P := Try.prog) ⟨xs.toArray⟩ (c.toNat : Int) w
    rw [Int.toNat_natCast, show c.toNat.toUInt8 = c from by simp] at hs
    change Sem.run Try.prog (do
      let b ← Extern.Bytes.bytesOf (.slice A xs.length cp)
      let c ← Extern.Bytes.asByte (.int .u8 (c.toNat : Int))
      match (List.range b.size).find? fun i => b[i]! == c with
      | some i => pure (goInt i)
      | none => pure (goInt (-1))) w = _
    change Sem.run Try.prog (do
      let b ← Extern.Bytes.bytesOf (.string ⟨xs.toArray⟩)
      let c ← Extern.Bytes.asByte (.int .u8 (c.toNat : Int))
      match (List.range b.size).find? fun i => b[i]! == c with
      | some i => pure (goInt i)
      | none => pure (goInt (-1))) w = _ at hs
    simp only [Sem.run_bind, run_bytesOf hr, Result.andThen]
    simp only [Extern.Bytes.bytesOf, Sem.run_bind, Sem.run_pure, Result.andThen] at hs
    exact hs
  rw [hi, Result.andThen_ok] at hx
  clear hi hr
  go_enter Try.func42, Try.ntmps42
  go_wp2_with fail
  go_ret
  exact ⟨rfl, rfl⟩
theorem hexIndex_any (c : UInt8) (w W : World) (hW : W.heap = (w.alloc (.cells (digitsL.map bv).toArray 5 (16, 17))).heap) :
    Calls Try.prog 42 #[.slice (some ⟨w.heap.size, 0, none⟩) 16 16, .int .u8 (c.toNat : Int)] W fun e w' => e = .returned (.int .i64 (hexI c)) ∧ w' = W := by
  refine indexB_any digitsL _ 16 c W ?_
  have h := rv_alloc w (digitsL.map bv) 5 (16, 17) _ rfl
  exact h.keep (by rw [hW]; exact Nat.le_refl _) fun _ b o _ _ => by rw [hW]
set_option maxRecDepth 100000 in
set_option maxHeartbeats 2000000 in
theorem parse_any (s : List UInt8) (w : World) :
    Calls Try.prog 34 #[.string ⟨s.toArray⟩] w fun e w' => e = .returned (parseV s) ∧ Below w.heap.size w w' := by
  have hsz : (⟨s.toArray⟩ : ByteArray).size = s.length := by simp [ByteArray.size]
  by_cases hlen : s.length = 64
  · have Hlen := Lib.hid hlen
    rw [hlen] at hsz
    clear hlen
    go_enter Try.func34, Try.ntmps34
    go_wp2_with (first
      | (refine wpList_at 2 rfl ?_; refine wpList_allocZ rfl 28 rfl (List.replicate 32 (.int .u8 0)) (fun ev w => by kernel_rfl) ?_; intro w1 hblk1 hb1 hz1)
      | (refine wpList_at 4 rfl ?_; refine wpList_allocZ rfl 28 rfl (List.replicate 32 (.int .u8 0)) (fun ev w => by kernel_rfl) ?_; intro w2 hblk2 hb2 hz2))
    have hB2 : Below w.heap.size w w2 := hb1.trans (hb2.mono hb1.size)
    have H1 := Lib.hid (hblk1.below hb2 hblk1.lt)
    rw [hz1] at hblk2
    have H2 := Lib.hid hblk2
    have HB2 := Lib.hid hB2
    have hzz : w.heap.size + 1 < w2.heap.size := by omega
    have Hsz := Lib.hid hsz
    clear hblk1 hblk2 hb1 hb2 hz1 hz2 hB2 hsz
    go_loopw [13] (fun i wr => ∃ k : Nat, k ≤ 64 ∧ i = .int .i64 k ∧ (∀ j, j < k → 0 ≤ hexI (s.getD j 0)) ∧ Blk wr (w.heap.size + 1) 28 ((parseK s k).map bv).toArray ∧ Only (fun b => b = w.heap.size + 1) w2 wr) (fun i _ => 64 - (intOf i).toNat)
    case atStart => exact ⟨0, by omega, rfl, fun j hj => by omega, H2.out, Only.refl _ _⟩
    case round =>
      obtain ⟨k, hk, rfl, hall, hblk, hO⟩ := hrel
      by_cases hlt : k < 64
      · have g1 : (k : Int) < 64 := by omega
        obtain ⟨c, hc⟩ : ∃ c, c = s.getD k 0 := ⟨_, rfl⟩
        have hsx : ∀ w', (Instr.index 9 (.string ⟨s.toArray⟩) (.int .i64 (k : Int))).run Try.prog w' = .ok (.int .u8 (c.toNat : Int)) w' := fun w' => by
          rw [run_index_string w' _ _ _ _ Try.underlying9, dif_pos ⟨by omega, by rw [Hsz.out]; omega⟩]
          have hks : k < s.length := by rw [Hlen.out]; exact hlt
          rw [hc, List.getD_eq_getElem?_getD, List.getElem?_eq_getElem hks]
          rfl
        have hcv := Lib.run_convert_bytes_const (P := Try.prog) wr 25 5 #[.int .u8 48, .int .u8 49, .int .u8 50, .int .u8 51, .int .u8 52, .int .u8 53, .int .u8 54, .int .u8 55, .int .u8 56, .int .u8 57, .int .u8 97, .int .u8 98, .int .u8 99, .int .u8 100, .int .u8 101, .int .u8 102] 16 16 Try.underlying25 Try.underlying5
        have hgl := hblk.lt
        have hrange := hexI_range c
        have hsiz := hO.size
        by_cases hh : 0 ≤ hexI c
        · obtain ⟨m, hmv⟩ : ∃ m : Nat, hexI c = m := ⟨(hexI c).toNat, by omega⟩
          have hm16 : m < 16 := by omega
          have hm16i : (m : Int) < 16 := by omega
          obtain ⟨x, hx⟩ : ∃ x, x = (parseK s k).getD (k / 2) 0 := ⟨_, rfl⟩
          have hk2 : k / 2 < 32 := by omega
          have hkl : k / 2 < (parseK s k).length := by rw [length_parseK]; exact hk2
          have hxc : wr.cell? ⟨w.heap.size + 1, k / 2, none⟩ = some (.int .u8 (x.toNat : Int)) := by
            rw [hblk.at_, List.getElem?_map, List.getElem?_eq_getElem hkl, hx, List.getD_eq_getElem?_getD, List.getElem?_eq_getElem hkl]; rfl
          have hf := hblk.frozen (k / 2)
          have hor := or_nib x m hm16
          have hnext : Hid (parseK s (k + 1) = (parseK s k).set (k / 2) (stepB x m)) := Lib.hid (by rw [parseK, ← hx, ← hc, hmv, Int.toNat_natCast])
          have hcall := fun W hW => hexIndex_any c wr W hW
          rw [hmv] at hcall
          have Hblk := Lib.hid hblk
          have HO := Lib.hid hO
          have Hall : Hid (∀ j, j < k + 1 → 0 ≤ hexI (s.getD j 0)) := Lib.hid (fun j hj => by
            rcases Nat.lt_or_ge j k with h | h
            · exact hall j h
            · obtain rfl : j = k := by omega
              rw [← hc]; exact hh)
          clear hblk hO hall hmv hh hrange hc hx
          go_wp2_with fail
          refine (hcall _ (by rfl)).mono ?_
          rintro e w5 ⟨rfl, h5⟩
          rw [h5]
          clear h5 hcall hcv hsx
          go_wp2_with fail
          refine ⟨⟨k + 1, by omega, by go_num, Hall.out, ?_, ?_⟩, by simp [intOf]; omega⟩
          · have h := Hblk.out.setL (k / 2) (bv (stepB x m))
            rw [← List.map_set, ← hnext.out] at h
            exact h.alloc _
          · exact (HO.out.setCell (p := ⟨w.heap.size + 1, k / 2, none⟩) (.inl rfl) _).alloc _
        · have hm1 : hexI c = -1 := by omega
          have hcall := fun W hW => hexIndex_any c wr W hW
          rw [hm1] at hcall
          have hv : Hid (parseV s = .tuple #[aggB zero32, .int .i64 21]) := Lib.hid (by
            unfold parseV
            rw [if_neg]
            rintro ⟨-, h⟩
            unfold allHex at h
            rw [List.all_eq_true] at h
            have hks : k < s.length := by rw [Hlen.out]; exact hlt
            have := h c (by rw [hc, List.getD_eq_getElem?_getD, List.getElem?_eq_getElem hks]; exact List.getElem_mem hks)
            simp at this
            omega)
          have h1 := H1.out.only hO (by omega)
          have HBr := Lib.hid (HB2.out.trans (hO.below HB2.out.size fun k hk => by omega))
          have H1r := Lib.hid h1
          clear hblk hO hall hh hrange hc hm1 h1
          go_wp2_with fail
          refine (hcall _ (by rfl)).mono ?_
          rintro e w5 ⟨rfl, h5⟩
          rw [h5]
          clear h5 hcall hcv hsx
          have h6 := H1r.out.alloc (.cells #[.int .u8 48, .int .u8 49, .int .u8 50, .int .u8 51, .int .u8 52, .int .u8 53, .int .u8 54, .int .u8 55, .int .u8 56, .int .u8 57, .int .u8 97, .int .u8 98, .int .u8 99, .int .u8 100, .int .u8 101, .int .u8 102] 5 (16, 17))
          have H6 := Lib.hid h6
          clear h6
          go_wp2_with (first
            | (refine wpList_at 24 rfl ?_; refine wpList_build rfl rfl (aggB zero32) (by kernel_rfl) ?_)
            | (refine wpList_atStore 28 (.tmp 2) (.tmp 24) rfl ?_; refine wp_stop ?_))
          refine ⟨?_⟩
          refine wpList_storeB rfl 28 (.tmp 2) (.tmp 24) rfl (zero32.map bv) rfl rfl H6.out (sizeDig.trans rfl) rfl (map_bv_one _) ?_
          intro w6 hblk6 ho6 hz6
          go_wp2_with fail
          refine bodyPost_ret (v := .tuple #[aggB zero32, .int .i64 21]) (results_cell_tmp rfl _ _ w.heap.size _ _ _ _ rfl rfl hblk6 Try.underlying28 rfl (sizeDig.trans rfl)) rfl ?_
          exact ⟨by rw [hv.out], (HBr.out.alloc HBr.out.size _).trans (ho6.below (by have := HBr.out.size; simp; omega) fun k hk => by omega)⟩
      · obtain rfl : k = 64 := by omega
        have hhex : allHex s = true := by
          unfold allHex
          rw [List.all_eq_true]
          intro c hc
          obtain ⟨j, hj, rfl⟩ := List.mem_iff_getElem.1 hc
          have := hall j (by rw [← Hlen.out]; exact hj)
          rw [List.getD_eq_getElem?_getD, List.getElem?_eq_getElem hj] at this
          exact decide_eq_true this
        have hv : Hid (parseV s = .tuple #[aggB (parseK s 64), .int .i64 0]) := Lib.hid (by
          unfold parseV
          rw [if_pos ⟨Hlen.out, hhex⟩])
        clear hhex
        have h1 := H1.out.only hO (by omega)
        have HBr := Lib.hid (HB2.out.trans (hO.below HB2.out.size fun k hk => by omega))
        have H1r := Lib.hid h1
        have H2r := Lib.hid hblk
        have Hs := Lib.hid (map_bv_len (parseK s 64) (length_parseK s 64))
        clear hblk hO hall h1
        go_wp2_with (first
          | (refine wpList_at 37 rfl ?_; refine wpList_loadG rfl 28 (.tmp 4) rfl (w.heap.size + 1) rfl ((parseK s 64).map bv) _ H2r.out Try.underlying28 rfl Hs.out ?_)
          | (refine wpList_atStore 28 (.tmp 2) (.tmp 37) rfl ?_; refine wp_stop ?_))
        refine ⟨?_⟩
        refine wpList_storeB rfl 28 (.tmp 2) (.tmp 37) rfl ((parseK s 64).map bv) rfl rfl H1r.out Hs.out (by rw [List.length_map, length_parseK]; rfl) (map_bv_one _) ?_
        intro w6 hblk6 ho6 hz6
        go_wp2_with fail
        refine bodyPost_ret (v := .tuple #[aggB (parseK s 64), .int .i64 0]) (results_cell_tmp rfl _ _ w.heap.size _ _ _ _ rfl rfl hblk6 Try.underlying28 rfl (Hs.out.trans (by simp))) rfl ?_
        exact ⟨by rw [hv.out], HBr.out.trans (ho6.below HBr.out.size fun k hk => by omega)⟩
  · have hne : ((s.length : Int) != 64) = true := by rw [bne_iff_ne]; omega
    have hv : Hid (parseV s = .tuple #[aggB zero32, .int .i64 21]) := Lib.hid (by unfold parseV; rw [if_neg (fun h => hlen h.1)])
    clear hlen
    go_enter Try.func34, Try.ntmps34
    go_wp2_with (first
      | (refine wpList_at 2 rfl ?_; refine wpList_allocZ rfl 28 rfl (List.replicate 32 (.int .u8 0)) (fun ev w => by kernel_rfl) ?_; intro w1 hblk1 hb1 hz1)
      | (refine wpList_at 4 rfl ?_; refine wpList_allocZ rfl 28 rfl (List.replicate 32 (.int .u8 0)) (fun ev w => by kernel_rfl) ?_; intro w2 hblk2 hb2 hz2; have hblk12 := hblk1.below hb2 hblk1.lt)
      | (refine wpList_at 10 rfl ?_; refine wpList_build rfl rfl (aggB zero32) (by kernel_rfl) ?_)
      | (refine wpList_storeB rfl 28 (.tmp 2) (.tmp 10) rfl (zero32.map bv) rfl rfl hblk12 (sizeDig.trans rfl) rfl (map_bv_one _) ?_; intro w3 hblk3 ho3 hz3))
    have hB2 : Below w.heap.size w w2 := hb1.trans (hb2.mono hb1.size)
    refine bodyPost_ret (v := .tuple #[aggB zero32, .int .i64 21]) (results_cell_tmp rfl _ _ w.heap.size _ _ _ _ rfl rfl hblk3 Try.underlying28 rfl (sizeDig.trans rfl)) rfl ?_
    exact ⟨by rw [hv.out], hB2.trans (ho3.below hB2.size fun k hk => by omega)⟩
end Go.Proofs.Ytmlkfkpffbbfaaa
