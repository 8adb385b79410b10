/- The law's Given: a digest as it was. -/
import Derived.Test.YtmlkfkpffbbfaaaShaLe
namespace Go.Proofs.Ytmlkfkpffbbfaaa
open Go.RowKit

/-- One operation, guarded, that is passed over. -/
theorem wpList_skipG {P : Program} {ops : Array Oper} {rest : List Oper} {o : Oper} {a : Act} {w : World} {Q : Exit → Act → World → Prop} (hw : Region.wanted o (yielded ops a.tmps) = false)
    (hk : wpList P ops Q rest (a.put o.dst undef) w) : wpList P ops Q (o :: rest) a w :=
  wpList_step fun K hK => by rw [if_neg (by rw [hw]; decide)]; exact hK _ _ hk
/-- Two arrays of bytes are compared in a quiet region. -/
theorem quiet_eqArr {P : Program} {o : Oper} {a : Act} {C : World → Prop} {K : Act → Prop} (T : TypeId) (x y : Operand) {Ty : TypeId} {e : TypeId} {k : IntKind} {n : Nat} (ho : o.op = .binOp .eql T x y Ty)
    (ht : P.underlying T = some (.array n e)) (he : P.underlying e = some (.int k)) (hs : (P.info? e).map (·.size) = some 1) (hg : P.eqGuardType P.depth T = false) {l m : List UInt8} (hx : a.eval x = aggB l) (hy : a.eval y = aggB m) (h1 : l.length = n) (h2 : m.length = n)
    (hk : K (a.put o.dst (.bool (decide (l = m))))) : o.quiet P a C K := by
  refine ⟨_, fun w hw => ?_, hk⟩
  have hgd : (eqGuard .eql T x y (aggB l) (aggB m)).run P w = .ok () w := run_eqGuard_agg w .eql T x y _ _ hg
  have hb : (binOp .eql T (aggB l) (aggB m)).run P w = .ok (.bool (decide (l = m))) w := run_eqlArr ht he hs h1 h2
  unfold Oper.quietAt execOp
  simp only [ho, hx, hy, Sem.run_bind, hgd, hb, Result.andThen_ok, Sem.run_pure]
  exact ⟨rfl, rfl⟩
theorem guardR : Try.prog.eqGuardType Try.prog.depth 31 = false := by kernel_rfl
theorem guardD : Try.prog.eqGuardType Try.prog.depth 28 = false := by kernel_rfl
theorem given_any (a : List UInt8) (ha : a.length = 32) (w : World) :
    Calls Try.prog 17 #[aggB a] w fun e w' => e = .returned (aggB a) ∧ Below w.heap.size w w' := by
  have hs := map_bv_len a ha
  have hs2 : (Try.prog.info? 31).map (·.size) = some (a.map bv).length := by
    rw [List.length_map, ha]
    kernel_rfl
  have Hs := Lib.hid hs
  have Hs2 := Lib.hid hs2
  have Ha := Lib.hid ha
  clear hs ha hs2
  go_enter Try.func17, Try.ntmps17
  go_wp2_with (first
    | (refine wpList_at 1 rfl ?_; refine wpList_boxB rfl 28 (.tmp 0) rfl (a.map bv) rfl ?_; intro w1 hblk1 hb1 hz1)
    | (refine wpList_at 2 rfl ?_; refine wpList_allocZ rfl 31 rfl (List.replicate 32 (.int .u8 0)) (fun ev w => by kernel_rfl) ?_; intro w2 hblk2 hb2 hz2; have hblk12 := hblk1.below hb2 hblk1.lt; rw [hz1] at hblk2)
    | (refine wpList_load_mid rfl 28 (.tmp 1) rfl w.heap.size 0 rfl (a.map bv) _ (range_blk hblk12) Try.underlying28 rfl Hs.out ?_)
    | (refine wpList_atStore 31 (.tmp 2) (.tmp 3) rfl ?_; refine wp_stop ?_))
  refine ⟨?_⟩
  refine wpList_storeB rfl 31 (.tmp 2) (.tmp 3) rfl (a.map bv) rfl rfl hblk2 Hs2.out (by rw [List.length_map, Ha.out]; rfl) (map_bv_one _) ?_
  intro w3 hblk3 ho3 hz3
  go_wp2_with fail
  have hB2 : Below w.heap.size w w2 := hb1.trans (hb2.mono hb1.size)
  refine bodyPost_ret (v := aggB a) (results_cell_row rfl _ _ (w.heap.size + 1) _ _ _ _ rfl hblk3 Try.underlying31 rfl (Hs2.out.trans (by simp))) rfl ?_
  exact ⟨rfl, hB2.trans (ho3.below hB2.size fun k hk => by omega)⟩
end Go.Proofs.Ytmlkfkpffbbfaaa
