/- The law's known: two instructions as bytes and back. -/
import Derived.Test.YtmmdkpnoncnjnaaOpDe2
import Derived.Test.YtmmdkpnoncnjnaaInsL
namespace Go.Proofs.Ytmmdkpnoncnjnaa
open Go.RowKit

theorem wpList_bytesStrG {P : Program} {w : World} {ops : Array Oper} {rest : List Oper} {o : Oper} {a : Act} {Q : Exit → Act → World → Prop} (hw : Region.wanted o (yielded ops a.tmps) = true) (x : Operand) {src dst e : TypeId} {A : Option Addr} {c : Nat} {ys : List UInt8} (ho : o.op = .convert src dst x) (hx : a.eval x = .slice A ys.length c)
    (hr : RV w A (ys.map bv)) (hs : P.underlying src = some (.slice e)) (he : P.underlying e = some (.int .u8)) (hd : P.underlying dst = some .string)
    (h : wpList P ops Q rest (a.put o.dst (.string ⟨ys.toArray⟩)) w) : wpList P ops Q (o :: rest) a w := by
  refine wpList_runG hw (.string ⟨ys.toArray⟩) ?_ h
  unfold execOp
  simp only [ho, hx, Sem.run_bind, run_bytesStr (P := P) (c := c) hr hs he hd, Result.andThen_ok, Sem.run_pure]
def knownI : List Ins := [⟨3, -1⟩, ⟨18, 0⟩]
theorem enc_known : encL knownI = ([3, 1, 18], 0) := by kernel_rfl
theorem dec_known : decL [3, 1, 18] = (knownI, 0) := by kernel_rfl
set_option maxRecDepth 100000 in
theorem known_any (w : World) : Calls Try.prog 15 #[] w fun e w' => e = .returned (.bool true) ∧ Below w.heap.size w w' := by
  go_enter Try.func15, Try.ntmps15
  go_wp2_with fail
  obtain ⟨w1, hw1⟩ : ∃ w1, w1 = w.alloc (.cells #[.int .i64 3, .int .i64 (-1), .int .i64 18, .int .i64 0] 48) := ⟨_, rfl⟩
  rw [← hw1]
  have hb1 : Below w.heap.size w w1 := by rw [hw1]; exact (Below.refl _ _).alloc (Nat.le_refl _) _
  have hB1 : BlkI w1 w.heap.size knownI := by rw [hw1]; exact Blk.new w _ _
  have hz1 : w.heap.size < w1.heap.size := hB1.lt
  have hr1 : RV w1 (some ⟨w.heap.size, 0, none⟩) (knownI.flatMap insCells) := BlkI.rv hB1 2 (by decide)
  have henc := encode_any (some ⟨w.heap.size, 0, none⟩) 2 knownI w1 hr1 (by intro i hi; simp only [knownI, List.mem_cons, List.not_mem_nil, or_false] at hi; rcases hi with rfl | rfl <;> exact ⟨by decide, by decide, by decide, by decide⟩) (by decide)
  rw [enc_known] at henc
  have Henc := Lib.hid henc
  have HB1 := Lib.hid hB1
  have Hb1 := Lib.hid hb1
  clear hw1 hb1 hB1 hr1 henc
  refine Henc.out.mono ?_
  intro e w2 hpost
  obtain ⟨A2, c2, rfl, hown2, hb2⟩ := hpost
  have hz2 := hb2.size
  have Hb2 := Lib.hid (Hb1.out.trans (hb2.mono (by omega)))
  have HB2 := Lib.hid (HB1.out.below hb2 hz1)
  have Hown2 := Lib.hid hown2
  clear hb2 hown2 Henc
  go_wp2_with fail
  obtain ⟨w3, hw3⟩ : ∃ w3, w3 = w2.alloc (.cells #[.int .u8 3, .int .u8 1, .int .u8 18] 5) := ⟨_, rfl⟩
  rw [← hw3]
  have hb23 : Below w2.heap.size w2 w3 := by rw [hw3]; exact (Below.refl _ _).alloc (Nat.le_refl _) _
  have hB3 : Blk w3 w2.heap.size 5 #[.int .u8 3, .int .u8 1, .int .u8 18] := by rw [hw3]; exact Blk.new w2 _ _
  have hs3 : Sl w3 ⟨some ⟨w2.heap.size, 0, none⟩, 3, [3, 1, 18]⟩ := ⟨RV.of_blk hB3, fun h => by cases h⟩
  have hdec := decode_any (some ⟨w2.heap.size, 0, none⟩) 3 [3, 1, 18] w3 hs3 (by decide)
  rw [dec_known] at hdec
  have Hdec := Lib.hid hdec
  have hz3 := hb23.size
  have Hb3 := Lib.hid (Hb2.out.trans (hb23.mono (by omega)))
  have HB3 := Lib.hid (HB2.out.below hb23 (by omega))
  have Hown3 := Lib.hid (Own.below Hown2.out hb23 (Nat.le_refl _))
  clear hw3 hb23 hB3 hs3 hdec
  refine Hdec.out.mono ?_
  intro e w4 hpost
  obtain ⟨A4, c4, rfl, hown4, hb4⟩ := hpost
  have hz4 := hb4.size
  have Hb4 := Lib.hid (Hb3.out.trans (hb4.mono (by omega)))
  have HB4 := Lib.hid (HB3.out.below hb4 (by omega))
  have hrv4 := RV.of_own (Own.below Hown3.out hb4 (Nat.le_refl _))
  have hsame := same_ins (some ⟨w.heap.size, 0, none⟩) A4 2 c4 knownI knownI w4 (BlkI.rv HB4.out 2 (by decide)) (RV.of_own hown4) (by decide) (by decide)
  rw [sameB_self] at hsame
  have Hrv4 := Lib.hid hrv4
  have Hsame := Lib.hid hsame
  clear hb4 hown4 Hdec hrv4 hsame
  go_wp2_with (refine wpList_at 27 rfl ?_; refine wpList_bytesStrG rfl (.tmp 26) (A := A2) (c := c2) (ys := [3, 1, 18]) rfl rfl Hrv4.out Try.underlying32 Try.underlying5 Try.underlying9 ?_)
  refine Hsame.out.mono ?_
  rintro e w5 ⟨rfl, m, rfl⟩
  go_wp2_with fail
  go_ret
  exact ⟨rfl, below_drewN Hb4.out m⟩
end Go.Proofs.Ytmmdkpnoncnjnaa
