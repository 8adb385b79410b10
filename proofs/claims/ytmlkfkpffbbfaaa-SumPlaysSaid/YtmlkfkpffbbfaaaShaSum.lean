/- The walk of the program's Sum: the digest of what the Hash holds. -/
import Derived.Test.YtmlkfkpffbbfaaaShaWr
namespace Go.Proofs.Ytmlkfkpffbbfaaa
open Go.RowKit

/-- An array of bytes as a value. -/
def aggB (l : List UInt8) : Value := .agg (l.map bv).toArray
theorem sizeHash : (Try.prog.info? 51).map (·.size) = some 74 := by kernel_rfl
theorem sizeDig : (Try.prog.info? 28).map (·.size) = some 32 := by kernel_rfl
theorem length_hash {xs : List UInt8} {ws : List UInt32} {begun : Bool} {rest : List UInt8} {n : Nat} (h : HashOf xs ws begun rest n) : (hashL ws begun rest n).length = 74 := by
  rw [length_hashL, h.ws_len, h.rest_len]
theorem hash_one (ws : List UInt32) (begun : Bool) (rest : List UInt8) (n : Nat) : ∀ u ∈ hashL ws begun rest n, u.oneCell' = true := by
  intro u hu
  unfold hashL at hu
  simp only [List.mem_append, List.mem_map, List.mem_cons, List.not_mem_nil, or_false] at hu
  rcases hu with ((⟨x, -, rfl⟩ | rfl) | ⟨x, -, rfl⟩) | rfl <;> rfl
theorem range_blk {w : World} {g : Nat} {t : TypeId} {cs : List Value} (h : Blk w g t cs.toArray) : w.rangeAt g 0 cs := fun j v hv => by
  rw [Nat.zero_add, h.at_]
  exact hv

/-- What is laid behind the bytes while the eight bytes of the length are put: i of them. -/
def fillL (n i : Nat) : List UInt8 := 128 :: (List.replicate (zerosN n) 0 ++ ((lenB n).take i ++ List.replicate (8 - i) 0))
theorem fill_done (n : Nat) : fillL n 8 = tailL n := by
  unfold fillL tailL
  rw [List.take_of_length_le (by rw [length_lenB]; omega)]
  simp
theorem length_fill (n i : Nat) (h : i ≤ 8) : (fillL n i).length = 9 + zerosN n := by
  simp only [fillL, List.length_cons, List.length_append, List.length_replicate, List.length_take, length_lenB]
  omega
theorem lenB_at (n i : Nat) (h : i < 8) : (lenB n)[i]? = some (UInt8.ofNat (8 * n / 2 ^ (8 * (7 - i)))) := by
  unfold lenB
  rw [List.getElem?_map, List.getElem?_range h]
  rfl
theorem fill_set (n i : Nat) (h : i < 8) : (fillL n i).set (1 + zerosN n + i) (UInt8.ofNat (8 * n / 2 ^ (8 * (7 - i)))) = fillL n (i + 1) := by
  unfold fillL
  obtain ⟨m, hm⟩ : ∃ m, 8 - i = m + 1 := ⟨7 - i, by omega⟩
  have hm2 : 8 - (i + 1) = m := by omega
  have hl : ((lenB n).take i).length = i := by rw [List.length_take, length_lenB]; omega
  rw [show 1 + zerosN n + i = (zerosN n + i) + 1 from by omega, List.set_cons_succ, List.set_append_right _ _ (by rw [List.length_replicate]; omega), List.length_replicate,
    show zerosN n + i - zerosN n = i from by omega, List.set_append_right _ _ (by omega), hl, Nat.sub_self, hm, hm2, List.replicate_succ, List.set_cons_zero,
    List.take_add_one, lenB_at n i h, List.append_assoc]
  rfl
/-- The digest while it is laid: k bytes are in. -/
def digL (l : List UInt8) (k : Nat) : List UInt8 := l.take k ++ List.replicate (32 - k) 0
theorem dig_set (l : List UInt8) (k : Nat) (h : k < 32) (hl : l.length = 32) (x : UInt8) (hx : l[k]? = some x) : (digL l k).set k x = digL l (k + 1) := by
  unfold digL
  obtain ⟨m, hm⟩ : ∃ m, 32 - k = m + 1 := ⟨31 - k, by omega⟩
  have hm2 : 32 - (k + 1) = m := by omega
  have h2 : (l.take k).length = k := by rw [List.length_take]; omega
  rw [List.set_append_right _ _ (by omega), h2, Nat.sub_self, hm, hm2, List.replicate_succ, List.set_cons_zero, List.take_add_one, hx, List.append_assoc]
  rfl
theorem length_dig (l : List UInt8) (k : Nat) (h : k ≤ 32) (hl : l.length = 32) : (digL l k).length = 32 := by
  simp only [digL, List.length_append, List.length_take, List.length_replicate]
  omega
theorem bytes_at (s : St8) (i k : Nat) (hi : i < 8) (hk : k < 4) : s.bytes[4 * i + k]? = some (UInt8.ofNat ((s.toL[i]'hi).toNat / 2 ^ (8 * (3 - k)))) := by
  match i, hi, k, hk with
  | 0, _, 0, _ => rfl
  | 0, _, 1, _ => rfl
  | 0, _, 2, _ => rfl
  | 0, _, 3, _ => simp [St8.bytes, St8.toL, wbytes]
  | 1, _, 0, _ => rfl
  | 1, _, 1, _ => rfl
  | 1, _, 2, _ => rfl
  | 1, _, 3, _ => simp [St8.bytes, St8.toL, wbytes]
  | 2, _, 0, _ => rfl
  | 2, _, 1, _ => rfl
  | 2, _, 2, _ => rfl
  | 2, _, 3, _ => simp [St8.bytes, St8.toL, wbytes]
  | 3, _, 0, _ => rfl
  | 3, _, 1, _ => rfl
  | 3, _, 2, _ => rfl
  | 3, _, 3, _ => simp [St8.bytes, St8.toL, wbytes]
  | 4, _, 0, _ => rfl
  | 4, _, 1, _ => rfl
  | 4, _, 2, _ => rfl
  | 4, _, 3, _ => simp [St8.bytes, St8.toL, wbytes]
  | 5, _, 0, _ => rfl
  | 5, _, 1, _ => rfl
  | 5, _, 2, _ => rfl
  | 5, _, 3, _ => simp [St8.bytes, St8.toL, wbytes]
  | 6, _, 0, _ => rfl
  | 6, _, 1, _ => rfl
  | 6, _, 2, _ => rfl
  | 6, _, 3, _ => simp [St8.bytes, St8.toL, wbytes]
  | 7, _, 0, _ => rfl
  | 7, _, 1, _ => rfl
  | 7, _, 2, _ => rfl
  | 7, _, 3, _ => simp [St8.bytes, St8.toL, wbytes]
theorem bv_ofNat (m : Nat) : bv (UInt8.ofNat m) = .int .u8 ((m : Int) % 256) := by
  unfold bv
  rw [UInt8.toNat_ofNat']
  simp

theorem bv_shr (m e : Nat) : bv (UInt8.ofNat (m * 8 / 2 ^ e)) = .int .u8 ((m : Int) * 8 / 2 ^ e % 256) := by
  rw [bv_ofNat, Int.natCast_ediv, Int.natCast_mul, Int.natCast_pow]
  rfl
theorem bv_shw (x : UInt32) (e : Nat) : bv (UInt8.ofNat (x.toNat / 2 ^ e)) = .int .u8 ((x.toNat : Int) / 2 ^ e % 256) := by
  rw [bv_ofNat, Int.natCast_ediv, Int.natCast_pow]
  rfl
theorem map_bv_len (l : List UInt8) (h : l.length = 32) : (Try.prog.info? 28).map (·.size) = some (l.map bv).length := by
  rw [List.length_map, h]; exact sizeDig

set_option maxHeartbeats 2000000 in
theorem sum_any (g : Nat) (xs : List UInt8) (w : World) (hH : HashV w g xs) (hl : xs.length ≤ 1152921504606846976) :
    Calls Try.prog 23 #[.pointer (some ⟨g, 0, none⟩)] w fun e w' => e = .returned (aggB (sha xs)) ∧ Below w.heap.size w w' := by
  have hgl := hH.lt
  obtain ⟨ws, begun, rest, n, hblk, hof⟩ := hH
  have hn := hof.n_eq
  have hcn := hash_at_n hblk hof.ws_len hof.rest_len
  have hln := length_hash hof
  have Hblk := Lib.hid hblk
  have Hof := Lib.hid hof
  have Hn := Lib.hid hn
  have Hln := Lib.hid hln
  have hnl : (n : Int) ≤ 1152921504606846976 := by omega
  obtain ⟨z, hz⟩ : ∃ z, z = zerosN n := ⟨_, rfl⟩
  have hz1 : (119 - (n : Int) % 64) % 64 = (z : Int) := by subst hz; unfold zerosN; omega
  have hz2 : (z : Int) ≤ 63 := by subst hz; unfold zerosN; omega
  have Hz := Lib.hid hz
  have hsz : (Try.prog.info? 51).map (·.size) = some (hashL ws begun rest n).length := by rw [hln]; exact sizeHash
  have Hsz := Lib.hid hsz
  clear hblk hof hn hln hz hsz
  go_enter Try.func23, Try.ntmps23
  go_wp2_with (first
    | (refine wpList_at 2 rfl ?_; refine wpList_allocZ rfl 28 rfl (List.replicate 32 (.int .u8 0)) (fun ev w => by kernel_rfl) ?_; intro w1 hblk1 hb1 hz1w)
    | (refine wpList_at 13 rfl ?_; refine wp_stop ?_))
  refine ⟨?_⟩
  have hcc := (bcell hb1).1
  have Hb1 := Lib.hid hb1
  have h1g : Hid (Blk w1 g 51 (hashL ws begun rest n).toArray) := Hblk.out.below hb1 hgl
  clear hb1
  refine wpList_load_mid rfl 51 (.tmp 12) rfl g 0 rfl (hashL ws begun rest n) _ (range_blk h1g.out) Try.underlying51 rfl Hsz.out ?_
  go_wp2_with (first
    | (refine wpList_at 3 rfl ?_; refine wpList_allocZ rfl 51 rfl (hashL (List.replicate 8 0) false (List.replicate 64 0) 0) (fun ev w => by kernel_rfl) ?_; intro w2 hblk2 hb2 hz2w)
    | (refine wpList_storeB rfl 51 (.tmp 3) (.tmp 13) rfl (hashL ws begun rest n) rfl rfl hblk2 Hsz.out (by rw [Hln.out]; rfl) (hash_one ws begun rest n) ?_; intro w3 hblk3 ho3 hz3; refine wp_stop ?_))
  refine ⟨?_⟩
  have hB1 := Hb1.out
  have hB2 : Below w.heap.size w w2 := hB1.trans (hb2.mono hB1.size)
  have hB3 : Below w.heap.size w w3 := hB2.trans (ho3.below hB2.size fun k hk => by have := hB1.size; omega)
  have h3d : Blk w3 w.heap.size 28 (List.replicate 32 (Value.int .u8 0)).toArray := (hblk1.below hb2 (by omega)).only ho3 (by omega)
  have h3n : w3.cell? ⟨g, 73, none⟩ = some (.int .i64 (n : Int)) := by rw [(bcell hB3).1 g 73 hgl]; exact hcn
  have hs3 : w3.heap.size = w.heap.size + 2 := by omega
  rw [hz1w] at hblk3
  have Hblk3 := Lib.hid hblk3
  have HB3 := Lib.hid hB3
  have H3d := Lib.hid h3d
  have Hs3 := Lib.hid hs3
  clear hblk1 hblk2 hblk3 hb2 ho3 hB1 hB2 hB3 h3d hs3 hcn h1g hcc hz1w hz2w hz3
  go_wp2_with (refine wpList_at 24 rfl ?_; refine wp_stop ?_)
  refine ⟨?_⟩
  refine wpList_make1 rfl (.tmp 23) (.tmp 23) rfl Try.underlying25 byte_info rfl .i64 .i64 (1 + z + 8) (z + 9) rfl rfl (by omega) (by omega) (by unfold maxLen; omega) ?_
  intro w4 hblk4 hb4 hz4
  have h4n : w4.cell? ⟨g, 73, none⟩ = some (.int .i64 (n : Int)) := by rw [(bcell hb4).1 g 73 (by have := Hs3.out; omega)]; exact h3n
  have h4f := hblk4.frozen 0
  obtain ⟨v4, h4c⟩ := hblk4.some (i := 0) (by rw [List.length_replicate]; omega)
  have h4g := hblk4.lt
  have hs4 : w3.heap.size = w.heap.size + 2 := Hs3.out
  have hng : g ≠ w3.heap.size := by omega
  have hB4 : Below w.heap.size w w4 := HB3.out.trans (hb4.mono HB3.out.size)
  have H4d := Lib.hid (H3d.out.below hb4 (by omega))
  have H4h := Lib.hid (Hblk3.out.below hb4 (by omega))
  have Hs4 := Lib.hid hs4
  have Hblk4 := Lib.hid hblk4
  have hz4' : w4.heap.size = w.heap.size + 3 := by omega
  have HB4 := Lib.hid hB4
  have Hz4 := Lib.hid hz4'
  clear hb4 h3n hblk4 hs4 hB4 hz4' hz4
  go_wp2_with fail
  go_loopw [27] (fun i wr => ∃ k : Nat, k ≤ 8 ∧ i = .int .i64 k ∧ Blk wr w3.heap.size 5 ((fillL n k).map bv).toArray ∧ Only (fun k => k = w3.heap.size) w4 wr) (fun i _ => 8 - (intOf i).toNat)
  case atStart =>
    refine ⟨0, by omega, rfl, ?_, Only.setCell (S := fun k => k = w3.heap.size) (Only.refl _ _) (p := ⟨w3.heap.size, 0, none⟩) (.inl rfl) _⟩
    have h := Hblk4.out.setL 0 (bv 128)
    have e : (List.replicate (z + 9) (Value.int .u8 0)).set 0 (bv 128) = (fillL n 0).map bv := by
      unfold fillL
      rw [← Hz.out, List.replicate_succ, List.set_cons_zero, List.map_cons, List.take_zero, List.nil_append, List.replicate_append_replicate, List.map_replicate]
      rfl
    rw [e] at h
    exact h
  case round =>
    obtain ⟨k, hk, rfl, hblk, hO⟩ := hrel
    by_cases hlt : k < 8
    · have g1 : (k : Int) < 8 := by omega
      have hcn : wr.cell? ⟨g, 73, none⟩ = some (.int .i64 (n : Int)) := by rw [(ocell hO).1 g 73 (by have := Hz4.out; omega) hng]; exact h4n
      have hf := hblk.frozen (1 + z + k)
      obtain ⟨v, hcv⟩ := hblk.some (i := 1 + z + k) (by rw [List.length_map, length_fill _ _ hk, ← Hz.out]; omega)
      have hgl4 := hblk.lt
      have Hblk5 := Lib.hid hblk
      clear hblk h4c h4f h4n
      go_wp2_with fail
      refine ⟨⟨k + 1, by omega, by go_num, ?_, hO.setCell (p := ⟨w3.heap.size, 1 + z + k, none⟩) (.inl rfl) _⟩, by simp [intOf]; omega⟩
      have h := Hblk5.out.setL (1 + z + k) (bv (UInt8.ofNat (8 * n / 2 ^ (8 * (7 - k)))))
      rw [← List.map_set, Hz.out, fill_set n k hlt, ← Hz.out, Nat.mul_comm, bv_shr] at h
      exact h
    · obtain rfl : k = 8 := by omega
      rw [fill_done] at hblk
      have hlen : (tailL n).length = z + 9 := by rw [length_tailL, ← Hz.out]; omega
      have hgl4 := hblk.lt
      have hzw := Hz4.out
      have hs4 := Hs4.out
      have hB5 : Below w.heap.size w wr := HB4.out.trans (hO.below (by omega) fun k hk => by omega)
      have h5d := H4d.out.only hO (by omega)
      have h5h : HashV wr (w.heap.size + 1) xs := ⟨ws, begun, rest, n, H4h.out.only hO (by omega), Hof.out⟩
      have hwr := hO.size
      have HB5 := Lib.hid hB5
      have H5d := Lib.hid h5d
      have hwrite := write_any (w.heap.size + 1) xs (tailL n) (some ⟨w3.heap.size, 0, none⟩) (z + 9) wr h5h (RV.of_blk hblk) (fun _ b o h => by cases h; omega) (by rw [hlen]; omega) (by omega) (by unfold maxLen; omega)
      rw [hlen] at hwrite
      clear hB5 h5d hblk h4c h4f h4n hs4 hlen hO h5h
      have hzw2 : w.heap.size + 3 ≤ wr.heap.size := by omega
      clear hzw hwr
      go_wp2_with fail
      refine hwrite.mono ?_
      rintro e w6 ⟨rfl, hH6, hO6⟩
      clear hwrite
      rw [Hn.out] at hH6
      obtain ⟨ws6, begun6, rest6, n6, hblk6, hof6⟩ := hH6
      obtain ⟨s6, hs6, hsha⟩ := hof6.sha
      have hw6 := hO6.size
      have HB6 := Lib.hid (HB5.out.trans (hO6.below (by omega) fun k hk => by omega))
      have H6d := Lib.hid (H5d.out.only hO6 (by omega))
      have Hblk6 := Lib.hid hblk6
      have Hs6 := Lib.hid hs6
      have Hsha := Lib.hid hsha
      have Hof6 := Lib.hid hof6
      clear hblk6 hs6 hsha hof6 hO6
      go_wp2_with (refine wpList_at 7 rfl ?_; refine wpList_allocZ rfl 28 rfl (List.replicate 32 (.int .u8 0)) (fun ev w => by kernel_rfl) ?_; intro w7 hblk7 hb7 hz7)
      have h7 := Hblk6.out.below hb7 (by omega)
      refine (state_any (w.heap.size + 1) ws6 begun6 rest6 n6 w7 h7 Hof6.out.ws_len).mono ?_
      rintro e w8 ⟨rfl, hb8⟩
      rw [Hs6.out]
      have hs8 := hb8.size
      have Hblk8 := Lib.hid (hblk7.below hb8 (by omega))
      have HB7 : Hid (Below w.heap.size w w7) := HB6.out.trans (hb7.mono HB6.out.size)
      have HB8 : Hid (Below w.heap.size w w8) := HB7.out.trans (hb8.mono HB7.out.size)
      have H8d := Lib.hid ((H6d.out.below hb7 (by omega)).below hb8 (by omega))
      have hw8 : w6.heap.size < w8.heap.size := by omega
      clear hblk7 hb7 hb8 h7 hz7 hs8
      go_wp2_with fail
      go_loopw [50] (fun i wr => ∃ k : Nat, k ≤ 8 ∧ i = .int .i64 k ∧ Blk wr w6.heap.size 28 ((digL s6.bytes (4 * k)).map bv).toArray ∧ Only (fun k => k = w6.heap.size) w8 wr) (fun i _ => 8 - (intOf i).toNat)
      case atStart => exact ⟨0, by omega, rfl, Hblk8.out, Only.refl _ _⟩
      case round =>
        obtain ⟨i, hi, rfl, hblk, hO⟩ := hrel
        by_cases hlt : i < 8
        · have g1 : (i : Int) < 8 := by omega
          have hidx : ∀ w' : World, (Instr.index 48 (aggW s6.toL) (.int .i64 (i : Int))).run Try.prog w' = .ok (.int .u32 ((s6.toL[i]'hlt).toNat : Int)) w' := fun w' =>
            run_index_row Try.underlying48 ⟨_, Try.underlying47⟩ size1W hlt (by
              show (s6.toL.map wv).toArray[i]? = _
              rw [List.getElem?_toArray, List.getElem?_map, List.getElem?_eq_getElem (by exact hlt)]; rfl)
          have Hblk9 := Lib.hid hblk
          have HO9 := Lib.hid hO
          clear hblk hO
          go_wp2_with fail
          clear hidx
          go_loopw [54] (fun j wr => ∃ k : Nat, k ≤ 4 ∧ j = .int .i64 k ∧ Blk wr w6.heap.size 28 ((digL s6.bytes (4 * i + k)).map bv).toArray ∧ Only (fun k => k = w6.heap.size) w8 wr) (fun i _ => 4 - (intOf i).toNat)
          case atStart => exact ⟨0, by omega, rfl, Hblk9.out, HO9.out⟩
          case round =>
            obtain ⟨k, hk, rfl, hblk, hO⟩ := hrel
            by_cases hlk : k < 4
            · have g2 : (k : Int) < 4 := by omega
              have hf := hblk.frozen (4 * i + k)
              obtain ⟨v, hcv⟩ := hblk.some (i := 4 * i + k) (by rw [List.length_map, length_dig _ _ (by omega) (length_bytes _)]; omega)
              have hgl5 := hblk.lt
              have Hblk10 := Lib.hid hblk
              have HO10 := Lib.hid hO
              clear hblk hO
              go_wp2_with fail
              refine ⟨⟨k + 1, by omega, by go_num, ?_, HO10.out.setCell (p := ⟨w6.heap.size, 4 * i + k, none⟩) (.inl rfl) _⟩, by simp [intOf]; omega⟩
              have h := Hblk10.out.setL (4 * i + k) (bv (UInt8.ofNat ((s6.toL[i]'hlt).toNat / 2 ^ (8 * (3 - k)))))
              rw [← List.map_set, dig_set _ _ (by omega) (length_bytes _) _ (bytes_at s6 i k hlt hlk), bv_shw] at h
              exact h
            · obtain rfl : k = 4 := by omega
              go_wp2_with fail
              exact ⟨⟨i + 1, by omega, by go_num, hblk, hO⟩, by simp [intOf]; omega⟩
        · obtain rfl : i = 8 := by omega
          rw [show digL s6.bytes (4 * 8) = s6.bytes from by unfold digL; rw [List.take_of_length_le (by rw [length_bytes]; omega)]; rfl, Hsha.out] at hblk
          have hsd := map_bv_len (sha xs) (length_sha xs)
          have Hsd := Lib.hid hsd
          have h9d := H8d.out.only hO (by omega)
          have HB9 := HB8.out.trans (hO.below (by have := HB8.out.size; omega) fun k hk => by omega)
          have hneq : w.heap.size ≠ w6.heap.size := by omega
          have Hr9 := Lib.hid (range_blk hblk)
          have H9d := Lib.hid h9d
          have HB9' := Lib.hid HB9
          clear hsd h9d HB9 hblk hO
          go_wp2_with (first
            | (refine wpList_load_mid rfl 28 (.tmp 7) rfl w6.heap.size 0 rfl ((sha xs).map bv) _ Hr9.out Try.underlying28 rfl Hsd.out ?_)
            | (refine wpList_storeB rfl 28 (.tmp 2) (.tmp 70) rfl ((sha xs).map bv) rfl rfl H9d.out Hsd.out (by rw [List.length_map, length_sha]; rfl) (map_bv_one _) ?_; intro w10 hblk10 ho10 hz10))
          have hB10 : Below w.heap.size w w10 := HB9'.out.trans (ho10.below HB9'.out.size fun k hk => by omega)
          refine bodyPost_ret (v := aggB (sha xs)) (results_cell_row rfl _ _ w.heap.size _ _ _ _ rfl hblk10 Try.underlying28 rfl (Hsd.out.trans (by simp))) rfl ?_
          exact ⟨rfl, hB10⟩
end Go.Proofs.Ytmlkfkpffbbfaaa
