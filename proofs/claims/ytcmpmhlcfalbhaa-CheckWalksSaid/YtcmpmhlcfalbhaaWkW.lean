/- The law's walked: behind a return, behind a call, behind all else (printed by gen_wkw.py). -/
import Derived.Test.YtcmpmhlcfalbhaaWkC
import Derived.Test.YtcmpmhlcfalbhaaWkR
namespace Go.Proofs.Ytcmpmhlcfalbhaa
open Go.RowKit

theorem fr_info : (Try.prog.info? 63).map (fun i => (i.zero, i.size, i.bytes)) = some (some (.agg #[.int .i64 0, .int .i64 0, .int .i64 0, .slice none 0 0]), 4, 48) := by kernel_rfl
theorem eFr : Elem Try.prog 64 63 4 48 := elem_of Try.underlying64 fr_info rfl (by decide)
theorem run_cutF (w : World) (g n c m : Nat) (hm : m ≤ c) : (Instr.slice 64 (.slice (some ⟨g, 0, none⟩) n c) none (some (.int .i64 (m : Int))) none).run Try.prog w = .ok (.slice (some ⟨g, 0, none⟩) m c) w := by
  have hs : Try.prog.underlying 64 = some (.slice (Try.prog.elem 64)) := by kernel_rfl
  have hz : (sizeOf (Try.prog.elem 64)).run Try.prog w = .ok 4 w := by kernel_rfl
  rw [run_slice_h w _ _ _ _ hs _ _ (by omega) (by omega), hz, Result.andThen_ok]
  unfold sliced
  rw [Int.toNat_natCast]
  simp [Addr.add]
theorem take_flat (l : List FrM) (k : Nat) : (l.take k).flatMap frCells = (l.flatMap frCells).take (k * 4) := by
  induction l generalizing k with
  | nil => simp
  | cons x l ih =>
    cases k with
    | zero => simp
    | succ k =>
      have h : (frCells x).length = 4 := rfl
      rw [List.take_succ_cons, List.flatMap_cons, List.flatMap_cons, ih, show (k + 1) * 4 = 4 + k * 4 by omega, List.take_append, show (4 + k * 4) - (frCells x).length = k * 4 from by rw [h]; omega, show (frCells x).take (4 + k * 4) = frCells x from List.take_of_length_le (by rw [h]; omega)]
theorem own_frAt {w : World} {base g n c : Nat} {ls : List FrM} (h : Own w base 63 4 (some ⟨g, 0, none⟩) n c (ls.flatMap frCells)) (k : Nat) (hk : k < ls.length) :
    ((∃ v, w.cell? ⟨g, k * 4, none⟩ = some v) ∧ (∃ v, w.cell? ⟨g, k * 4 + 1, none⟩ = some v) ∧ (∃ v, w.cell? ⟨g, k * 4 + 2, none⟩ = some v) ∧ ∃ v, w.cell? ⟨g, k * 4 + 3, none⟩ = some v) ∧
    (w.frozen? ⟨g, k * 4, none⟩ = false ∧ w.frozen? ⟨g, k * 4 + 1, none⟩ = false ∧ w.frozen? ⟨g, k * 4 + 2, none⟩ = false ∧ w.frozen? ⟨g, k * 4 + 3, none⟩ = false) ∧ g < w.heap.size := by
  have hl : (ls.flatMap frCells).length = ls.length * 4 := frCells_len ls
  obtain ⟨a0, b0, h0⟩ := own_at h (k * 4) (by omega)
  obtain ⟨a1, b1, -⟩ := own_at h (k * 4 + 1) (by omega)
  obtain ⟨a2, b2, -⟩ := own_at h (k * 4 + 2) (by omega)
  obtain ⟨a3, b3, -⟩ := own_at h (k * 4 + 3) (by omega)
  exact ⟨⟨⟨_, a0⟩, ⟨_, a1⟩, ⟨_, a2⟩, ⟨_, a3⟩⟩, ⟨b0, b1, b2, b3⟩, h0⟩
theorem fr_set (ls : List FrM) (k : Nat) (z : FrM) (h : k < ls.length) : ((((ls.flatMap frCells).set (k * 4) (.int .i64 (z.x.f : Int))).set (k * 4 + 1) (.int .i64 (z.x.n : Int))).set (k * 4 + 2) (.int .i64 z.x.h)).set (k * 4 + 3) (.slice (some ⟨z.g, 0, none⟩) z.x.been.length z.x.been.length) = (ls.set k z).flatMap frCells := by
  induction ls generalizing k with
  | nil => cases h
  | cons y ls ih =>
    cases k with
    | zero => rfl
    | succ k =>
      rw [List.set_cons_succ, List.flatMap_cons, List.flatMap_cons, ← ih k (by simpa using h), show (k + 1) * 4 = k * 4 + 4 from by omega]
      rfl
set_option maxRecDepth 100000 in
set_option maxHeartbeats 4000000 in
theorem walkedR (p : PrgM) (l : List FrM) (K gl c : Nat) (y : FrM) (op aa pick : Int) (w : World) (hp : PrgAt w p) (hl : RV w (some ⟨gl, 0, none⟩) (l.flatMap frCells)) (hlen : l.length = K + 1) (hK : K ≤ 1000) (hcap : K + 1 ≤ c) (hy : l[K]? = some y)
    (hh0 : -16 ≤ y.x.h) (hh1 : y.x.h ≤ 256) (ht0 : 0 ≤ (takesL p.plain y.x.f y.x.n).1) (ht1 : (takesL p.plain y.x.f y.x.n).1 ≤ 16) (hg0 : 0 ≤ (takesL p.plain y.x.f y.x.n).2) (hg1 : (takesL p.plain y.x.f y.x.n).2 ≤ 2) (K1 : Nat) (hK1 : K = K1 + 1) (z : FrM) (hz : l[K1]? = some z) (hzh : -300 ≤ z.x.h ∧ z.x.h ≤ 300) (hop : op = 18) :
    Calls Try.prog 31 #[p.val, .slice (some ⟨gl, 0, none⟩) (K + 1) c, .agg #[.int .i64 op, .int .i64 aa], .int .i64 pick] w fun e w' => ∃ A c', e = .returned (.slice A K c') ∧ Own w' w.heap.size 63 4 A K c' (((l.take K).set K1 ⟨⟨z.x.f, z.x.n, z.x.h + (takesL p.plain y.x.f y.x.n).1, z.x.been⟩, z.g⟩).flatMap frCells) ∧ Below w.heap.size w w' := by
  obtain ⟨w1, hw1⟩ : ∃ w1, w1 = (w.alloc (.cells #[.int .i64 p.mem, .slice p.AD p.data.length p.cD, .slice p.AF p.fs.length p.cF] 26)).alloc (.cells #[.int .i64 op, .int .i64 aa] 45) := ⟨_, rfl⟩
  obtain ⟨gx, hgx⟩ : ∃ g, g = w.heap.size := ⟨_, rfl⟩
  obtain ⟨gi, hgi⟩ : ∃ g, g = w.heap.size + 1 := ⟨_, rfl⟩
  have hb1 : Below w.heap.size w w1 := by rw [hw1]; exact ((Below.refl _ _).alloc (Nat.le_refl _) _).alloc (by simp) _
  have hX : Blk w1 gx 26 #[.int .i64 p.mem, .slice p.AD p.data.length p.cD, .slice p.AF p.fs.length p.cF] := by rw [hw1, hgx]; exact (Blk.new w _ _).alloc _
  have hI : Blk w1 gi 45 #[.int .i64 op, .int .i64 aa] := by rw [hw1, hgi]; exact Blk.new2 _ _ _ _
  have hl1 := hl.below hb1
  obtain ⟨bl, ol, hbl, hlb, hlc⟩ := hl1.at_ (by rw [frCells_len]; omega)
  injection hbl with hbl
  injection hbl with e1 e2
  subst e1 e2
  simp only [Nat.zero_add] at hlc
  have hlc' : ∀ j u, (l.flatMap frCells)[j]? = some u → w1.cell? ⟨gl, 0 + j, none⟩ = some u := fun j u h => by rw [Nat.zero_add]; exact hlc j u h
  obtain ⟨c0, c1, c2, c3⟩ := fr_cells hlc' K y hy
  simp only [Nat.zero_add] at c0 c1 c2 c3
  obtain ⟨bn, hbn⟩ : ∃ n, n = y.x.been.length := ⟨_, rfl⟩
  rw [← hbn] at c3
  obtain ⟨yf, hyf⟩ : ∃ n, n = y.x.f := ⟨_, rfl⟩
  obtain ⟨yn, hyn⟩ : ∃ n, n = y.x.n := ⟨_, rfl⟩
  obtain ⟨yh, hyh⟩ : ∃ n, n = y.x.h := ⟨_, rfl⟩
  obtain ⟨yg, hyg⟩ : ∃ n, n = y.g := ⟨_, rfl⟩
  rw [← hyf] at c0
  rw [← hyn] at c1
  rw [← hyh] at c2 hh0 hh1
  rw [← hyg] at c3
  obtain ⟨T, hT⟩ : ∃ T, T = takesL p.plain yf yn := ⟨_, rfl⟩
  have hT' : takesL p.plain y.x.f y.x.n = T := by rw [hT, hyf, hyn]
  rw [hT'] at ht0 ht1 hg0 hg1
  obtain ⟨w2, hw2⟩ : ∃ w2, w2 = w1.alloc (.cells #[.int .i64 (yf : Int), .int .i64 (yn : Int), .int .i64 yh, .slice (some ⟨yg, 0, none⟩) bn bn] 63) := ⟨_, rfl⟩
  obtain ⟨gn, hgn⟩ : ∃ g, g = w1.heap.size := ⟨_, rfl⟩
  have hb2 : Below w1.heap.size w1 w2 := by rw [hw2]; exact (Below.refl _ _).alloc (Nat.le_refl _) _
  have hN2 : Blk w2 gn 63 #[.int .i64 (yf : Int), .int .i64 (yn : Int), .int .i64 yh, .slice (some ⟨yg, 0, none⟩) bn bn] := by rw [hw2, hgn]; exact Blk.new _ _ _
  have hX2 := hX.below hb2 hX.lt
  have hI2 := hI.below hb2 hI.lt
  have hP2 := (hp.below hb1).below hb2
  have HB2 := Lib.hid (hb1.trans (hb2.mono hb1.size))
  have HL2 := Lib.hid (hl1.below hb2)
  have HTk := Lib.hid (show Calls Try.prog 19 #[.agg #[.int .i64 p.mem, .slice p.AD p.data.length p.cD, .slice p.AF p.fs.length p.cF], .agg #[.int .i64 (yf : Int), .int .i64 (yn : Int)]] w2 (TakesPost w2 T) from by rw [hT]; exact takes_any p yf yn w2 hP2)
  have HP2 := Lib.hid hP2
  have HX2 := Lib.hid hX2
  have HI2 := Lib.hid hI2
  have HN2 := Lib.hid hN2
  have Hw1 := Lib.hid hw1
  have Hgx := Lib.hid hgx
  have Hgi := Lib.hid hgi
  have Hw2 := Lib.hid hw2
  have Hgn := Lib.hid hgn
  have Hy := Lib.hid hy
  have Hlen := Lib.hid hlen
  have HyE := Lib.hid (show yf = y.x.f ∧ yn = y.x.n ∧ yh = y.x.h ∧ yg = y.g ∧ bn = y.x.been.length ∧ takesL p.plain y.x.f y.x.n = T from ⟨hyf, hyn, hyh, hyg, hbn, hT'⟩)
  have Hp0 := Lib.hid hp
  have Hws := Lib.hid (show w1.heap.size = w.heap.size + 2 from by rw [hw1]; simp)
  have Hun := Lib.hid (show -16 ≤ yh ∧ yh ≤ 256 ∧ 0 ≤ T.1 ∧ T.1 ≤ 16 ∧ 0 ≤ T.2 ∧ T.2 ≤ 2 from ⟨hh0, hh1, ht0, ht1, hg0, hg1⟩)
  have HZ := Lib.hid (show gx = w.heap.size ∧ gi = w.heap.size + 1 ∧ gn = w1.heap.size ∧ w.heap.size ≤ w1.heap.size ∧ gl < w.heap.size from ⟨hgx, hgi, hgn, hb1.size, by
    obtain ⟨bq, oq, hbq, hlq, -⟩ := hl.at_ (by rw [frCells_len]; omega)
    injection hbq with hbq
    injection hbq with e1 e2
    rw [e1]; exact hlq⟩)
  have s1 : ((K : Int) + 1 - 1) = (K : Int) := by omega
  have s2 : IntKind.i64.wrap (K : Int) = (K : Int) := by rw [IntKind.wrap_i64]; omega
  have kb : (K : Int) < (K : Int) + 1 := by omega
  have x0 : w2.cell? ⟨gx, 0, none⟩ = some (.int .i64 p.mem) := hX2.cell 0
  have x1 : w2.cell? ⟨gx, 1, none⟩ = some (.slice p.AD p.data.length p.cD) := hX2.cell 1
  have x2 : w2.cell? ⟨gx, 2, none⟩ = some (.slice p.AF p.fs.length p.cF) := hX2.cell 2
  have xl := hX2.lt
  have n0 : w2.cell? ⟨gn, 0, none⟩ = some (.int .i64 (yf : Int)) := hN2.cell 0
  have n1 : w2.cell? ⟨gn, 1, none⟩ = some (.int .i64 (yn : Int)) := hN2.cell 1
  have nl := hN2.lt
  have hcut := fun w' => run_cutF w' gl (K + 1) c K (by omega)
  have HK1 := Lib.hid hK1
  have Hz := Lib.hid hz
  clear hz hK1
  subst hop
  clear hp hl hb1 hX hI hl1 hlc hlc' hT' hb2 hN2 hX2 hI2 hP2 hw1 hgx hgi hw2 hgn hy hlen hyf hyn hyh hyg hbn hT
  go_enter Try.func31, Try.ntmps31
  go_upto_region 1 with (fail)
  rw [← Hw1.out, ← Hgi.out, ← Hgx.out]
  clear Hw1 Hgi Hgx
  go_upto_region 3 with (fail)
  rw [← Hw2.out, ← Hgn.out]
  clear Hw2 Hgn c0 c1 c2 c3 hlb
  go_wp2_with fail
  refine HTk.out.mono ?_
  rintro e w3 ⟨rfl, hb3⟩
  have hX3 := HX2.out.below hb3 HX2.out.lt
  have hN3 := HN2.out.below hb3 HN2.out.lt
  have HI3 := Lib.hid (HI2.out.below hb3 HI2.out.lt)
  have HP3 := Lib.hid (HP2.out.below hb3)
  have HL3 := Lib.hid (HL2.out.below hb3)
  have HB3 := Lib.hid (HB2.out.trans (hb3.mono HB2.out.size))
  have HNx := Lib.hid (show Calls Try.prog 18 #[.agg #[.int .i64 p.mem, .slice p.AD p.data.length p.cD, .slice p.AF p.fs.length p.cF], .agg #[.int .i64 (yf : Int), .int .i64 (yn : Int)]] w3 (IntsPost w3 (nextL p.plain yf yn)) from next_any p yf yn w3 HP3.out)
  have x0' : w3.cell? ⟨gx, 0, none⟩ = some (.int .i64 p.mem) := hX3.cell 0
  have x1' : w3.cell? ⟨gx, 1, none⟩ = some (.slice p.AD p.data.length p.cD) := hX3.cell 1
  have x2' : w3.cell? ⟨gx, 2, none⟩ = some (.slice p.AF p.fs.length p.cF) := hX3.cell 2
  have xl' := hX3.lt
  have n0' : w3.cell? ⟨gn, 0, none⟩ = some (.int .i64 (yf : Int)) := hN3.cell 0
  have n1' : w3.cell? ⟨gn, 1, none⟩ = some (.int .i64 (yn : Int)) := hN3.cell 1
  have nl' := hN3.lt
  have HX3 := Lib.hid hX3
  have HN3 := Lib.hid hN3
  have Hz3 := Lib.hid (show w2.heap.size ≤ w3.heap.size from hb3.size)
  clear hb3 hX3 hN3 x0 x1 x2 xl n0 n1 nl HX2 HN2 HI2 HP2 HL2 HTk
  go_wp2_with fail
  refine HNx.out.mono ?_
  rintro e w4 ⟨A8, c8, rfl, ho8, hb4⟩
  obtain ⟨m8, hm8⟩ : ∃ m, m = (nextL p.plain yf yn).length := ⟨_, rfl⟩
  rw [← hm8]
  have Hm8 := Lib.hid hm8
  have Ho8 := Lib.hid ho8
  have HX4 := Lib.hid (HX3.out.below hb4 HX3.out.lt)
  have HN4 := Lib.hid (HN3.out.below hb4 HN3.out.lt)
  have HI4 := Lib.hid (HI3.out.below hb4 HI3.out.lt)
  have HP4 := Lib.hid (HP3.out.below hb4)
  have HL4 := Lib.hid (HL3.out.below hb4)
  have HB4 := Lib.hid (HB3.out.trans (hb4.mono HB3.out.size))
  have Hz4 := Lib.hid (show gn < w3.heap.size ∧ gx < w3.heap.size ∧ gi < w3.heap.size ∧ w3.heap.size ≤ w4.heap.size from ⟨HN3.out.lt, HX3.out.lt, HI3.out.lt, hb4.size⟩)
  clear hm8 ho8 hb4 x0' x1' x2' xl' n0' n1' nl' HX3 HN3 HI3 HP3 HL3 HB3 HNx
  go_wp2_with (refine wpList_at 38 rfl ?_; refine wp_stop ?_)
  try refine ⟨?_⟩
  have hrt : RV w4 (some ⟨gl, 0, none⟩) ((l.take K).flatMap frCells) := by rw [take_flat]; exact RV.takeR HL4.out (K * 4)
  refine wpList_app rfl (.tmp 34) (.tmp 37) eFr rfl rfl (Own.nil w4 w.heap.size 63 4) (m := K) (c' := c) (us := (l.take K).flatMap frCells) rfl hrt (by rw [frCells_len, List.length_take, Hlen.out]; omega) (fr_one _) (by unfold maxLen; omega) (by omega) HB4.out.size (by intro h; cases h) ?_
  intro A6 c6 w6 hown6 hg6 hA6
  rw [Nat.zero_add, List.nil_append] at hown6
  have hO6 : Only (fun _ => False) w4 w6 := Only.of_grown hg6 (fun k e => by cases e)
  have hb6 : Below w4.heap.size w4 w6 := hO6.below (Nat.le_refl _) (fun _ _ h => h)
  have hI6 := HI4.out.below hb6 HI4.out.lt
  have i0 : w6.cell? ⟨gi, 0, none⟩ = some (.int .i64 18) := hI6.cell 0
  have il := hI6.lt
  have HO6 := Lib.hid (show Own w6 w.heap.size 63 4 A6 K c6 ((l.take K).flatMap frCells) from hown6)
  have HX6 := Lib.hid (HX4.out.below hb6 HX4.out.lt)
  have HN6 := Lib.hid (HN4.out.below hb6 HN4.out.lt)
  have HI6 := Lib.hid hI6
  have HP6 := Lib.hid (HP4.out.below hb6)
  have Ho6 := Lib.hid (Own.below Ho8.out hb6 (Nat.le_refl _))
  have HB6 := Lib.hid (HB4.out.trans (hb6.mono HB4.out.size))
  have Hz6 := Lib.hid (show w4.heap.size ≤ w6.heap.size from hb6.size)
  have HA6 := Lib.hid (show ∀ b, A6.map (·.block) = some b → w4.heap.size ≤ b from fun b e => by
    rcases hA6 with h | h
    · rw [h] at e; cases e
    · rw [e] at h; have := Option.some.inj h; omega)
  clear hrt hown6 hg6 hA6 hO6 hb6 hI6 HX4 HN4 HI4 HP4 HL4 HB4 Ho8 hcut
  obtain ⟨g6, rfl, -, hg6l⟩ := own_some HO6.out (by have := HK1.out; omega)
  have hzt : (l.take K)[K1]? = some z := by rw [List.getElem?_take, if_pos (by have := HK1.out; omega)]; exact Hz.out
  have hrv6 : ∀ j u, ((l.take K).flatMap frCells)[j]? = some u → w6.cell? ⟨g6, 0 + j, none⟩ = some u := fun j u h => by
    obtain ⟨hj, hju⟩ := List.getElem?_eq_some_iff.1 h
    rw [Nat.zero_add]
    obtain ⟨h1, -, -⟩ := own_at HO6.out j hj
    rw [h1, hju]
  obtain ⟨c0, c1, c2, c3⟩ := fr_cells hrv6 K1 z hzt
  simp only [Nat.zero_add] at c0 c1 c2 c3
  obtain ⟨zf, hzf⟩ : ∃ n, n = z.x.f := ⟨_, rfl⟩
  obtain ⟨zn, hzn⟩ : ∃ n, n = z.x.n := ⟨_, rfl⟩
  obtain ⟨zh, hzh'⟩ : ∃ n, n = z.x.h := ⟨_, rfl⟩
  obtain ⟨zg, hzg⟩ : ∃ n, n = z.g := ⟨_, rfl⟩
  obtain ⟨zb, hzb⟩ : ∃ n, n = z.x.been.length := ⟨_, rfl⟩
  rw [← hzf] at c0
  rw [← hzn] at c1
  rw [← hzh'] at c2 hzh
  rw [← hzg, ← hzb] at c3
  obtain ⟨hzh0, hzh1⟩ := hzh
  have HzE := Lib.hid (show zf = z.x.f ∧ zn = z.x.n ∧ zh = z.x.h ∧ zg = z.g ∧ zb = z.x.been.length from ⟨hzf, hzn, hzh', hzg, hzb⟩)
  obtain ⟨w7, hw7⟩ : ∃ w', w' = w6.alloc (.cells #[.int .i64 (zf : Int), .int .i64 (zn : Int), .int .i64 zh, .slice (some ⟨zg, 0, none⟩) zb zb] 63) := ⟨_, rfl⟩
  obtain ⟨gq, hgq⟩ : ∃ g, g = w6.heap.size := ⟨_, rfl⟩
  have hb7 : Below w6.heap.size w6 w7 := by rw [hw7]; exact (Below.refl _ _).alloc (Nat.le_refl _) _
  have hQ7 : Blk w7 gq 63 #[.int .i64 (zf : Int), .int .i64 (zn : Int), .int .i64 zh, .slice (some ⟨zg, 0, none⟩) zb zb] := by rw [hw7, hgq]; exact Blk.new _ _ _
  have t1 : ((K : Int) - 1) = (K1 : Int) := by have := HK1.out; omega
  have t2 : IntKind.i64.wrap (K1 : Int) = (K1 : Int) := by rw [IntKind.wrap_i64]; have := HK1.out; omega
  have t3 : (K1 : Int) < (K : Int) := by have := HK1.out; omega
  have t4 : IntKind.i64.wrap (zh + T.1) = zh + T.1 := by rw [IntKind.wrap_i64]; omega
  have Hw7 := Lib.hid hw7
  have Hgq := Lib.hid hgq
  have HQ7 := Lib.hid hQ7
  have HO7 := Lib.hid (Own.below HO6.out hb7 (Nat.le_refl _))
  have HB7 := Lib.hid (HB6.out.trans (hb7.mono HB6.out.size))
  have Hgql := Lib.hid (show w.heap.size ≤ gq from by rw [hgq]; exact HB6.out.size)
  have hq6 : ¬ g6 = gq := by omega
  have hq6' : ¬ gq = g6 := by omega
  have q0 : w7.cell? ⟨gq, 0, none⟩ = some (.int .i64 (zf : Int)) := hQ7.cell 0
  have q1 : w7.cell? ⟨gq, 1, none⟩ = some (.int .i64 (zn : Int)) := hQ7.cell 1
  have q2 : w7.cell? ⟨gq, 2, none⟩ = some (.int .i64 zh) := hQ7.cell 2
  have q3 : w7.cell? ⟨gq, 3, none⟩ = some (.slice (some ⟨zg, 0, none⟩) zb zb) := hQ7.cell 3
  have qf2 := hQ7.frozen 2
  have ql := hQ7.lt
  clear hzt hrv6 hzf hzn hzh' hzg hzb hw7 hgq hb7 hQ7
  go_upto_region 10 with (fail)
  rw [← Hw7.out, ← Hgq.out]
  clear c0 c1 c2 c3
  obtain ⟨⟨⟨v0, c0⟩, ⟨v1, c1⟩, ⟨v2, c2⟩, ⟨v3, c3⟩⟩, ⟨f0, f1, f2, f3⟩, g6l⟩ := own_frAt HO7.out K1 (by rw [List.length_take, Hlen.out]; have := HK1.out; omega)
  clear Hw7 Hgq
  go_wp2_with fail
  go_ret
  have hOq : Only (fun b => b = gq) w7 (w7.setCell ⟨gq, 2, none⟩ (.int .i64 (zh + T.1))) := (Only.refl (fun b => b = gq) w7).setCell (p := ⟨gq, 2, none⟩) (.inl rfl) _
  have hO8 := Own.only HO7.out hOq (fun b o e => by
    have e3 := Option.some.inj e
    injection e3 with e3
    exact fun h => hq6 (e3.trans h))
  have hB8 := HB7.out.setCell (show w.heap.size ≤ (⟨gq, 2, none⟩ : Addr).block from Hgql.out) (.int .i64 (zh + T.1))
  have hg6w : w.heap.size ≤ g6 := (Own.row HO6.out g6 rfl).1
  refine ⟨_, c6, rfl, ?_, (((hB8.setCell (show w.heap.size ≤ (⟨g6, K1 * 4, none⟩ : Addr).block from hg6w) _).setCell (show w.heap.size ≤ (⟨g6, K1 * 4 + 1, none⟩ : Addr).block from hg6w) _).setCell (show w.heap.size ≤ (⟨g6, K1 * 4 + 2, none⟩ : Addr).block from hg6w) _).setCell (show w.heap.size ≤ (⟨g6, K1 * 4 + 3, none⟩ : Addr).block from hg6w) _⟩
  rw [← fr_set (l.take K) K1 _ (by rw [List.length_take, Hlen.out]; have := HK1.out; omega)]
  dsimp only
  obtain ⟨z1, z2, z3, z4, z5⟩ := HzE.out
  rw [← z1, ← z2, ← z3, ← z4, ← z5, HyE.out.2.2.2.2.2]
  exact own_set (own_set (own_set (own_set hO8 _ _) _ _) _ _) _ _
set_option maxRecDepth 100000 in
set_option maxHeartbeats 4000000 in
theorem walkedN (p : PrgM) (l : List FrM) (K gl c : Nat) (y : FrM) (op aa pick : Int) (w : World) (hp : PrgAt w p) (hl : RV w (some ⟨gl, 0, none⟩) (l.flatMap frCells)) (hlen : l.length = K + 1) (hK : K ≤ 1000) (hcap : K + 1 ≤ c) (hy : l[K]? = some y)
    (hh0 : -16 ≤ y.x.h) (hh1 : y.x.h ≤ 256) (ht0 : 0 ≤ (takesL p.plain y.x.f y.x.n).1) (ht1 : (takesL p.plain y.x.f y.x.n).1 ≤ 16) (hg0 : 0 ≤ (takesL p.plain y.x.f y.x.n).2) (hg1 : (takesL p.plain y.x.f y.x.n).2 ≤ 2) (hne : 0 < (nextL p.plain y.x.f y.x.n).length) (hnx : ∀ u ∈ nextL p.plain y.x.f y.x.n, 0 ≤ u) (h18 : op ≠ 18) (h17 : op ≠ 17) :
    Calls Try.prog 31 #[p.val, .slice (some ⟨gl, 0, none⟩) (K + 1) c, .agg #[.int .i64 op, .int .i64 aa], .int .i64 pick] w fun e w' => ∃ A c' v, v ∈ nxF p.plain y.x.f y.x.n ∧ e = .returned (.slice A (K + 1) c') ∧ Own w' w.heap.size 63 4 A (K + 1) c' ((l.take K ++ [(⟨⟨y.x.f, v, y.x.h - (takesL p.plain y.x.f y.x.n).1 + (takesL p.plain y.x.f y.x.n).2, y.x.been⟩, y.g⟩ : FrM)]).flatMap frCells) ∧ Below w.heap.size w w' := by
  obtain ⟨w1, hw1⟩ : ∃ w1, w1 = (w.alloc (.cells #[.int .i64 p.mem, .slice p.AD p.data.length p.cD, .slice p.AF p.fs.length p.cF] 26)).alloc (.cells #[.int .i64 op, .int .i64 aa] 45) := ⟨_, rfl⟩
  obtain ⟨gx, hgx⟩ : ∃ g, g = w.heap.size := ⟨_, rfl⟩
  obtain ⟨gi, hgi⟩ : ∃ g, g = w.heap.size + 1 := ⟨_, rfl⟩
  have hb1 : Below w.heap.size w w1 := by rw [hw1]; exact ((Below.refl _ _).alloc (Nat.le_refl _) _).alloc (by simp) _
  have hX : Blk w1 gx 26 #[.int .i64 p.mem, .slice p.AD p.data.length p.cD, .slice p.AF p.fs.length p.cF] := by rw [hw1, hgx]; exact (Blk.new w _ _).alloc _
  have hI : Blk w1 gi 45 #[.int .i64 op, .int .i64 aa] := by rw [hw1, hgi]; exact Blk.new2 _ _ _ _
  have hl1 := hl.below hb1
  obtain ⟨bl, ol, hbl, hlb, hlc⟩ := hl1.at_ (by rw [frCells_len]; omega)
  injection hbl with hbl
  injection hbl with e1 e2
  subst e1 e2
  simp only [Nat.zero_add] at hlc
  have hlc' : ∀ j u, (l.flatMap frCells)[j]? = some u → w1.cell? ⟨gl, 0 + j, none⟩ = some u := fun j u h => by rw [Nat.zero_add]; exact hlc j u h
  obtain ⟨c0, c1, c2, c3⟩ := fr_cells hlc' K y hy
  simp only [Nat.zero_add] at c0 c1 c2 c3
  obtain ⟨bn, hbn⟩ : ∃ n, n = y.x.been.length := ⟨_, rfl⟩
  rw [← hbn] at c3
  obtain ⟨yf, hyf⟩ : ∃ n, n = y.x.f := ⟨_, rfl⟩
  obtain ⟨yn, hyn⟩ : ∃ n, n = y.x.n := ⟨_, rfl⟩
  obtain ⟨yh, hyh⟩ : ∃ n, n = y.x.h := ⟨_, rfl⟩
  obtain ⟨yg, hyg⟩ : ∃ n, n = y.g := ⟨_, rfl⟩
  rw [← hyf] at c0
  rw [← hyn] at c1
  rw [← hyh] at c2 hh0 hh1
  rw [← hyg] at c3
  obtain ⟨T, hT⟩ : ∃ T, T = takesL p.plain yf yn := ⟨_, rfl⟩
  have hT' : takesL p.plain y.x.f y.x.n = T := by rw [hT, hyf, hyn]
  rw [hT'] at ht0 ht1 hg0 hg1
  obtain ⟨w2, hw2⟩ : ∃ w2, w2 = w1.alloc (.cells #[.int .i64 (yf : Int), .int .i64 (yn : Int), .int .i64 yh, .slice (some ⟨yg, 0, none⟩) bn bn] 63) := ⟨_, rfl⟩
  obtain ⟨gn, hgn⟩ : ∃ g, g = w1.heap.size := ⟨_, rfl⟩
  have hb2 : Below w1.heap.size w1 w2 := by rw [hw2]; exact (Below.refl _ _).alloc (Nat.le_refl _) _
  have hN2 : Blk w2 gn 63 #[.int .i64 (yf : Int), .int .i64 (yn : Int), .int .i64 yh, .slice (some ⟨yg, 0, none⟩) bn bn] := by rw [hw2, hgn]; exact Blk.new _ _ _
  have hX2 := hX.below hb2 hX.lt
  have hI2 := hI.below hb2 hI.lt
  have hP2 := (hp.below hb1).below hb2
  have HB2 := Lib.hid (hb1.trans (hb2.mono hb1.size))
  have HL2 := Lib.hid (hl1.below hb2)
  have HTk := Lib.hid (show Calls Try.prog 19 #[.agg #[.int .i64 p.mem, .slice p.AD p.data.length p.cD, .slice p.AF p.fs.length p.cF], .agg #[.int .i64 (yf : Int), .int .i64 (yn : Int)]] w2 (TakesPost w2 T) from by rw [hT]; exact takes_any p yf yn w2 hP2)
  have HP2 := Lib.hid hP2
  have HX2 := Lib.hid hX2
  have HI2 := Lib.hid hI2
  have HN2 := Lib.hid hN2
  have Hw1 := Lib.hid hw1
  have Hgx := Lib.hid hgx
  have Hgi := Lib.hid hgi
  have Hw2 := Lib.hid hw2
  have Hgn := Lib.hid hgn
  have Hy := Lib.hid hy
  have Hlen := Lib.hid hlen
  have HyE := Lib.hid (show yf = y.x.f ∧ yn = y.x.n ∧ yh = y.x.h ∧ yg = y.g ∧ bn = y.x.been.length ∧ takesL p.plain y.x.f y.x.n = T from ⟨hyf, hyn, hyh, hyg, hbn, hT'⟩)
  have Hp0 := Lib.hid hp
  have Hws := Lib.hid (show w1.heap.size = w.heap.size + 2 from by rw [hw1]; simp)
  have Hun := Lib.hid (show -16 ≤ yh ∧ yh ≤ 256 ∧ 0 ≤ T.1 ∧ T.1 ≤ 16 ∧ 0 ≤ T.2 ∧ T.2 ≤ 2 from ⟨hh0, hh1, ht0, ht1, hg0, hg1⟩)
  have HZ := Lib.hid (show gx = w.heap.size ∧ gi = w.heap.size + 1 ∧ gn = w1.heap.size ∧ w.heap.size ≤ w1.heap.size ∧ gl < w.heap.size from ⟨hgx, hgi, hgn, hb1.size, by
    obtain ⟨bq, oq, hbq, hlq, -⟩ := hl.at_ (by rw [frCells_len]; omega)
    injection hbq with hbq
    injection hbq with e1 e2
    rw [e1]; exact hlq⟩)
  have s1 : ((K : Int) + 1 - 1) = (K : Int) := by omega
  have s2 : IntKind.i64.wrap (K : Int) = (K : Int) := by rw [IntKind.wrap_i64]; omega
  have kb : (K : Int) < (K : Int) + 1 := by omega
  have x0 : w2.cell? ⟨gx, 0, none⟩ = some (.int .i64 p.mem) := hX2.cell 0
  have x1 : w2.cell? ⟨gx, 1, none⟩ = some (.slice p.AD p.data.length p.cD) := hX2.cell 1
  have x2 : w2.cell? ⟨gx, 2, none⟩ = some (.slice p.AF p.fs.length p.cF) := hX2.cell 2
  have xl := hX2.lt
  have n0 : w2.cell? ⟨gn, 0, none⟩ = some (.int .i64 (yf : Int)) := hN2.cell 0
  have n1 : w2.cell? ⟨gn, 1, none⟩ = some (.int .i64 (yn : Int)) := hN2.cell 1
  have nl := hN2.lt
  have hcut := fun w' => run_cutF w' gl (K + 1) c K (by omega)
  have h18b : (op == 18) = false := by simpa using h18
  have h17b : (op == 17) = false := by simpa using h17
  have Hne := Lib.hid (show 0 < (nextL p.plain yf yn).length ∧ ∀ u ∈ nextL p.plain yf yn, 0 ≤ u from by rw [hyf, hyn]; exact ⟨hne, hnx⟩)
  clear hne hnx h18 h17
  clear hp hl hb1 hX hI hl1 hlc hlc' hT' hb2 hN2 hX2 hI2 hP2 hw1 hgx hgi hw2 hgn hy hlen hyf hyn hyh hyg hbn hT
  go_enter Try.func31, Try.ntmps31
  go_upto_region 1 with (fail)
  rw [← Hw1.out, ← Hgi.out, ← Hgx.out]
  clear Hw1 Hgi Hgx
  go_upto_region 3 with (fail)
  rw [← Hw2.out, ← Hgn.out]
  clear Hw2 Hgn c0 c1 c2 c3 hlb
  go_wp2_with fail
  refine HTk.out.mono ?_
  rintro e w3 ⟨rfl, hb3⟩
  have hX3 := HX2.out.below hb3 HX2.out.lt
  have hN3 := HN2.out.below hb3 HN2.out.lt
  have HI3 := Lib.hid (HI2.out.below hb3 HI2.out.lt)
  have HP3 := Lib.hid (HP2.out.below hb3)
  have HL3 := Lib.hid (HL2.out.below hb3)
  have HB3 := Lib.hid (HB2.out.trans (hb3.mono HB2.out.size))
  have HNx := Lib.hid (show Calls Try.prog 18 #[.agg #[.int .i64 p.mem, .slice p.AD p.data.length p.cD, .slice p.AF p.fs.length p.cF], .agg #[.int .i64 (yf : Int), .int .i64 (yn : Int)]] w3 (IntsPost w3 (nextL p.plain yf yn)) from next_any p yf yn w3 HP3.out)
  have x0' : w3.cell? ⟨gx, 0, none⟩ = some (.int .i64 p.mem) := hX3.cell 0
  have x1' : w3.cell? ⟨gx, 1, none⟩ = some (.slice p.AD p.data.length p.cD) := hX3.cell 1
  have x2' : w3.cell? ⟨gx, 2, none⟩ = some (.slice p.AF p.fs.length p.cF) := hX3.cell 2
  have xl' := hX3.lt
  have n0' : w3.cell? ⟨gn, 0, none⟩ = some (.int .i64 (yf : Int)) := hN3.cell 0
  have n1' : w3.cell? ⟨gn, 1, none⟩ = some (.int .i64 (yn : Int)) := hN3.cell 1
  have nl' := hN3.lt
  have HX3 := Lib.hid hX3
  have HN3 := Lib.hid hN3
  have Hz3 := Lib.hid (show w2.heap.size ≤ w3.heap.size from hb3.size)
  clear hb3 hX3 hN3 x0 x1 x2 xl n0 n1 nl HX2 HN2 HI2 HP2 HL2 HTk
  go_wp2_with fail
  refine HNx.out.mono ?_
  rintro e w4 ⟨A8, c8, rfl, ho8, hb4⟩
  obtain ⟨m8, hm8⟩ : ∃ m, m = (nextL p.plain yf yn).length := ⟨_, rfl⟩
  rw [← hm8]
  have Hm8 := Lib.hid hm8
  have Ho8 := Lib.hid ho8
  have HX4 := Lib.hid (HX3.out.below hb4 HX3.out.lt)
  have HN4 := Lib.hid (HN3.out.below hb4 HN3.out.lt)
  have HI4 := Lib.hid (HI3.out.below hb4 HI3.out.lt)
  have HP4 := Lib.hid (HP3.out.below hb4)
  have HL4 := Lib.hid (HL3.out.below hb4)
  have HB4 := Lib.hid (HB3.out.trans (hb4.mono HB3.out.size))
  have Hz4 := Lib.hid (show gn < w3.heap.size ∧ gx < w3.heap.size ∧ gi < w3.heap.size ∧ w3.heap.size ≤ w4.heap.size from ⟨HN3.out.lt, HX3.out.lt, HI3.out.lt, hb4.size⟩)
  clear hm8 ho8 hb4 x0' x1' x2' xl' n0' n1' nl' HX3 HN3 HI3 HP3 HL3 HB3 HNx
  go_wp2_with (refine wpList_at 38 rfl ?_; refine wp_stop ?_)
  try refine ⟨?_⟩
  have hrt : RV w4 (some ⟨gl, 0, none⟩) ((l.take K).flatMap frCells) := by rw [take_flat]; exact RV.takeR HL4.out (K * 4)
  refine wpList_app rfl (.tmp 34) (.tmp 37) eFr rfl rfl (Own.nil w4 w.heap.size 63 4) (m := K) (c' := c) (us := (l.take K).flatMap frCells) rfl hrt (by rw [frCells_len, List.length_take, Hlen.out]; omega) (fr_one _) (by unfold maxLen; omega) (by omega) HB4.out.size (by intro h; cases h) ?_
  intro A6 c6 w6 hown6 hg6 hA6
  rw [Nat.zero_add, List.nil_append] at hown6
  have hO6 : Only (fun _ => False) w4 w6 := Only.of_grown hg6 (fun k e => by cases e)
  have hb6 : Below w4.heap.size w4 w6 := hO6.below (Nat.le_refl _) (fun _ _ h => h)
  have hI6 := HI4.out.below hb6 HI4.out.lt
  have i0 : w6.cell? ⟨gi, 0, none⟩ = some (.int .i64 op) := hI6.cell 0
  have il := hI6.lt
  have HO6 := Lib.hid (show Own w6 w.heap.size 63 4 A6 K c6 ((l.take K).flatMap frCells) from hown6)
  have HX6 := Lib.hid (HX4.out.below hb6 HX4.out.lt)
  have HN6 := Lib.hid (HN4.out.below hb6 HN4.out.lt)
  have HI6 := Lib.hid hI6
  have HP6 := Lib.hid (HP4.out.below hb6)
  have Ho6 := Lib.hid (Own.below Ho8.out hb6 (Nat.le_refl _))
  have HB6 := Lib.hid (HB4.out.trans (hb6.mono HB4.out.size))
  have Hz6 := Lib.hid (show w4.heap.size ≤ w6.heap.size from hb6.size)
  have HA6 := Lib.hid (show ∀ b, A6.map (·.block) = some b → w4.heap.size ≤ b from fun b e => by
    rcases hA6 with h | h
    · rw [h] at e; cases e
    · rw [e] at h; have := Option.some.inj h; omega)
  clear hrt hown6 hg6 hA6 hO6 hb6 hI6 HX4 HN4 HI4 HP4 HL4 HB4 Ho8 hcut
  have hm0 : 0 < m8 := by rw [Hm8.out]; exact Hne.out.1
  have hm2 : m8 ≤ 2 := by rw [Hm8.out]; exact nextL_len _ _ _
  have m0 : ((m8 : Int) == 0) = false := by simp; omega
  have m1 : ¬ (m8 : Int) = 0 := by omega
  have h01 := Int.emod_nonneg pick (show ((m8 : Nat) : Int) ≠ 0 by omega)
  have h02 := Int.emod_lt_of_pos pick (show (0 : Int) < ((m8 : Nat) : Int) by omega)
  obtain ⟨kk, hkk⟩ : ∃ k : Nat, (k : Int) = pick % ((m8 : Nat) : Int) := ⟨(pick % ((m8 : Nat) : Int)).toNat, by omega⟩
  have Hrd := Lib.hid (fun w' => roundW_any pick m8 kk hkk hm0 (by omega) w')
  have hkm : kk < m8 := by omega
  have g7 : (kk : Int) < (m8 : Int) := by omega
  obtain ⟨u, hu⟩ : ∃ u, u = (nxF p.plain yf yn)[kk]'(by unfold nxF; rw [List.length_map, ← Hm8.out]; exact hkm) := ⟨_, rfl⟩
  have hum : u ∈ nxF p.plain yf yn := by rw [hu]; exact List.getElem_mem _
  have hkn1 : kk < (nextL p.plain yf yn).length := by rw [← Hm8.out]; exact hkm
  have hu1 : (nextL p.plain yf yn)[kk] = (u : Int) := by
    have h0 := Hne.out.2 _ (List.getElem_mem hkn1)
    have h2 : (nxF p.plain yf yn)[kk]? = some ((nextL p.plain yf yn)[kk]).toNat := by unfold nxF; rw [List.getElem?_map, List.getElem?_eq_getElem hkn1]; rfl
    have h3 := (List.getElem?_eq_some_iff.1 h2).2
    rw [hu, h3]
    omega
  obtain ⟨rb, rfl, hrb, -⟩ := own_some Ho6.out Hne.out.1
  have r0 := (own_at Ho6.out kk (by rw [List.length_map, ← Hm8.out]; exact hkm)).1
  rw [List.getElem_map, hu1] at r0
  have hrl := (Own.row Ho6.out rb rfl).2
  replace r0 : w6.cell? ⟨rb, kk, none⟩ = some (.int .i64 (u : Int)) := r0
  have hrn : ¬ rb = gn := by have := Hz4.out; omega
  have t1 : IntKind.i64.wrap (yh - T.1) = yh - T.1 := by rw [IntKind.wrap_i64]; omega
  have t2 : IntKind.i64.wrap (yh - T.1 + T.2) = yh - T.1 + T.2 := by rw [IntKind.wrap_i64]; omega
  have hN6 := HN6.out
  have n0 : w6.cell? ⟨gn, 0, none⟩ = some (.int .i64 (yf : Int)) := hN6.cell 0
  have n1 : w6.cell? ⟨gn, 1, none⟩ = some (.int .i64 (yn : Int)) := hN6.cell 1
  have n2 : w6.cell? ⟨gn, 2, none⟩ = some (.int .i64 yh) := hN6.cell 2
  have n3 : w6.cell? ⟨gn, 3, none⟩ = some (.slice (some ⟨yg, 0, none⟩) bn bn) := hN6.cell 3
  have nf1 := hN6.frozen 1
  have nf2 := hN6.frozen 2
  have nl := hN6.lt
  obtain ⟨w7, hw7⟩ : ∃ w', w' = (w6.setCell ⟨gn, 2, none⟩ (.int .i64 (yh - T.1 + T.2))).setCell ⟨gn, 1, none⟩ (.int .i64 (u : Int)) := ⟨_, rfl⟩
  have hO7 : Only (fun b => b = gn) w6 w7 := by rw [hw7]; exact ((Only.refl (fun b => b = gn) w6).setCell (p := ⟨gn, 2, none⟩) (.inl rfl) _).setCell (p := ⟨gn, 1, none⟩) (.inl rfl) _
  have hgn6 : ∀ b, A6.map (·.block) = some b → ¬ b = gn := fun b e h => by have := HA6.out b e; have := Hz4.out; omega
  have HO7 := Lib.hid (Own.only HO6.out hO7 fun b o e => hgn6 b (by rw [e]; rfl))
  have HN7 := Lib.hid (show Blk w7 gn 63 #[.int .i64 (yf : Int), .int .i64 (u : Int), .int .i64 (yh - T.1 + T.2), .slice (some ⟨yg, 0, none⟩) bn bn] from by rw [hw7]; exact (hN6.set_ 2 _).set_ 1 _)
  have hgnw : w.heap.size ≤ gn := by have := HZ.out; omega
  have HB7 := Lib.hid (show Below w.heap.size w w7 from HB6.out.trans (hO7.below (B := w.heap.size) HB6.out.size fun b hb e => by omega))
  have Hw7 := Lib.hid hw7
  have Hum := Lib.hid hum
  clear h01 h02 hkk hu hum hkn1 hu1 hN6 hw7 hO7 hgn6
  go_upto_region 23 with (fail)
  go_wp2_with fail
  refine (Hrd.out _).mono ?_
  rintro e w' ⟨rfl, hww⟩
  subst hww
  go_upto_region 24 with (fail)
  rw [← Hw7.out]
  clear Hw7 n0 n1 n2 n3 nf1 nf2 nl
  have n0 : w7.cell? ⟨gn, 0, none⟩ = some (.int .i64 (yf : Int)) := HN7.out.cell 0
  have n1 : w7.cell? ⟨gn, 1, none⟩ = some (.int .i64 (u : Int)) := HN7.out.cell 1
  have n2 : w7.cell? ⟨gn, 2, none⟩ = some (.int .i64 (yh - T.1 + T.2)) := HN7.out.cell 2
  have n3 : w7.cell? ⟨gn, 3, none⟩ = some (.slice (some ⟨yg, 0, none⟩) bn bn) := HN7.out.cell 3
  have nl := HN7.out.lt
  go_wp2_with (refine wpList_at 116 rfl ?_; refine wp_stop ?_)
  try refine ⟨?_⟩
  refine wpList_app rfl (.tmp 113) (.tmp 115) eFr rfl rfl (Own.below HO7.out ((Below.refl _ _).alloc (Nat.le_refl _) _) (Nat.le_refl _)) (m := 1) (c' := 1) (us := [.int .i64 (yf : Int), .int .i64 (u : Int), .int .i64 (yh - T.1 + T.2), .slice (some ⟨yg, 0, none⟩) bn bn]) rfl (RV.of_blk (Blk.new w7 63 #[.int .i64 (yf : Int), .int .i64 (u : Int), .int .i64 (yh - T.1 + T.2), .slice (some ⟨yg, 0, none⟩) bn bn])) rfl (by intro y hy; simp only [List.mem_cons, List.not_mem_nil, or_false] at hy; rcases hy with rfl | rfl | rfl | rfl <;> rfl) (by unfold maxLen; omega) (by omega) (by have := HB7.out.size; simp; omega) (by intro h; cases h) ?_
  intro A9 c9 w9 hown9 hg9 hA9
  have hO9 : Only (fun b => A6.map (·.block) = some b) w7 w9 := Only.grown ((Only.refl _ w7).alloc _) hg9 fun k hk => .inl hk
  have HB9 := Lib.hid (HB7.out.trans (hO9.below (B := w.heap.size) HB7.out.size fun b hb e => by have := (Own.row HO7.out b e).1; omega))
  have HO9 := Lib.hid hown9
  clear hown9 hg9 hA9 hO9 n0 n1 n2 n3 nl
  go_wp2_with fail
  go_ret
  obtain ⟨y1, y2, y3, y4, y5, y6⟩ := HyE.out
  refine ⟨A9, c9, u, by rw [← y1, ← y2]; exact Hum.out, rfl, ?_, HB9.out⟩
  rw [List.flatMap_append, y6, ← y1, ← y3]
  have e : [(⟨⟨yf, u, yh - T.1 + T.2, y.x.been⟩, y.g⟩ : FrM)].flatMap frCells = [.int .i64 (yf : Int), .int .i64 (u : Int), .int .i64 (yh - T.1 + T.2), .slice (some ⟨yg, 0, none⟩) bn bn] := by
    show ([.int .i64 (yf : Int), .int .i64 (u : Int), .int .i64 (yh - T.1 + T.2), .slice (some ⟨y.g, 0, none⟩) y.x.been.length y.x.been.length] : List Value) = _
    rw [← y4, ← y5]
  rw [e]
  exact HO9.out
set_option maxRecDepth 100000 in
set_option maxHeartbeats 4000000 in
theorem walkedC (p : PrgM) (l : List FrM) (K gl c : Nat) (y : FrM) (op aa pick : Int) (w : World) (hp : PrgAt w p) (hl : RV w (some ⟨gl, 0, none⟩) (l.flatMap frCells)) (hlen : l.length = K + 1) (hK : K ≤ 1000) (hcap : K + 1 ≤ c) (hy : l[K]? = some y)
    (hh0 : -16 ≤ y.x.h) (hh1 : y.x.h ≤ 256) (ht0 : 0 ≤ (takesL p.plain y.x.f y.x.n).1) (ht1 : (takesL p.plain y.x.f y.x.n).1 ≤ 16) (hg0 : 0 ≤ (takesL p.plain y.x.f y.x.n).2) (hg1 : (takesL p.plain y.x.f y.x.n).2 ≤ 2) (z : Nat) (hz : z < p.fs.length) (hnx : nextL p.plain y.x.f y.x.n = [(y.x.n : Int) + 1]) (hcl : p.plain.len z ≤ 4096) (hop : op = 17) (haa : aa = z) :
    Calls Try.prog 31 #[p.val, .slice (some ⟨gl, 0, none⟩) (K + 1) c, .agg #[.int .i64 op, .int .i64 aa], .int .i64 pick] w fun e w' => ∃ A c' gB, e = .returned (.slice A (K + 2) c') ∧ Own w' w.heap.size 63 4 A (K + 2) c' ((l.take K ++ ([(⟨⟨y.x.f, y.x.n + 1, y.x.h - (takesL p.plain y.x.f y.x.n).1, y.x.been⟩, y.g⟩ : FrM)] ++ [(⟨⟨z, 0, 0, List.replicate (p.plain.len z) false⟩, gB⟩ : FrM)])).flatMap frCells) ∧ OwnL w' w.heap.size (some ⟨gB, 0, none⟩) (p.plain.len z) (p.plain.len z) (List.replicate (p.plain.len z) false) ∧ Below w.heap.size w w' := by
  obtain ⟨w1, hw1⟩ : ∃ w1, w1 = (w.alloc (.cells #[.int .i64 p.mem, .slice p.AD p.data.length p.cD, .slice p.AF p.fs.length p.cF] 26)).alloc (.cells #[.int .i64 op, .int .i64 aa] 45) := ⟨_, rfl⟩
  obtain ⟨gx, hgx⟩ : ∃ g, g = w.heap.size := ⟨_, rfl⟩
  obtain ⟨gi, hgi⟩ : ∃ g, g = w.heap.size + 1 := ⟨_, rfl⟩
  have hb1 : Below w.heap.size w w1 := by rw [hw1]; exact ((Below.refl _ _).alloc (Nat.le_refl _) _).alloc (by simp) _
  have hX : Blk w1 gx 26 #[.int .i64 p.mem, .slice p.AD p.data.length p.cD, .slice p.AF p.fs.length p.cF] := by rw [hw1, hgx]; exact (Blk.new w _ _).alloc _
  have hI : Blk w1 gi 45 #[.int .i64 op, .int .i64 aa] := by rw [hw1, hgi]; exact Blk.new2 _ _ _ _
  have hl1 := hl.below hb1
  obtain ⟨bl, ol, hbl, hlb, hlc⟩ := hl1.at_ (by rw [frCells_len]; omega)
  injection hbl with hbl
  injection hbl with e1 e2
  subst e1 e2
  simp only [Nat.zero_add] at hlc
  have hlc' : ∀ j u, (l.flatMap frCells)[j]? = some u → w1.cell? ⟨gl, 0 + j, none⟩ = some u := fun j u h => by rw [Nat.zero_add]; exact hlc j u h
  obtain ⟨c0, c1, c2, c3⟩ := fr_cells hlc' K y hy
  simp only [Nat.zero_add] at c0 c1 c2 c3
  obtain ⟨bn, hbn⟩ : ∃ n, n = y.x.been.length := ⟨_, rfl⟩
  rw [← hbn] at c3
  obtain ⟨yf, hyf⟩ : ∃ n, n = y.x.f := ⟨_, rfl⟩
  obtain ⟨yn, hyn⟩ : ∃ n, n = y.x.n := ⟨_, rfl⟩
  obtain ⟨yh, hyh⟩ : ∃ n, n = y.x.h := ⟨_, rfl⟩
  obtain ⟨yg, hyg⟩ : ∃ n, n = y.g := ⟨_, rfl⟩
  rw [← hyf] at c0
  rw [← hyn] at c1
  rw [← hyh] at c2 hh0 hh1
  rw [← hyg] at c3
  obtain ⟨T, hT⟩ : ∃ T, T = takesL p.plain yf yn := ⟨_, rfl⟩
  have hT' : takesL p.plain y.x.f y.x.n = T := by rw [hT, hyf, hyn]
  rw [hT'] at ht0 ht1 hg0 hg1
  obtain ⟨w2, hw2⟩ : ∃ w2, w2 = w1.alloc (.cells #[.int .i64 (yf : Int), .int .i64 (yn : Int), .int .i64 yh, .slice (some ⟨yg, 0, none⟩) bn bn] 63) := ⟨_, rfl⟩
  obtain ⟨gn, hgn⟩ : ∃ g, g = w1.heap.size := ⟨_, rfl⟩
  have hb2 : Below w1.heap.size w1 w2 := by rw [hw2]; exact (Below.refl _ _).alloc (Nat.le_refl _) _
  have hN2 : Blk w2 gn 63 #[.int .i64 (yf : Int), .int .i64 (yn : Int), .int .i64 yh, .slice (some ⟨yg, 0, none⟩) bn bn] := by rw [hw2, hgn]; exact Blk.new _ _ _
  have hX2 := hX.below hb2 hX.lt
  have hI2 := hI.below hb2 hI.lt
  have hP2 := (hp.below hb1).below hb2
  have HB2 := Lib.hid (hb1.trans (hb2.mono hb1.size))
  have HL2 := Lib.hid (hl1.below hb2)
  have HTk := Lib.hid (show Calls Try.prog 19 #[.agg #[.int .i64 p.mem, .slice p.AD p.data.length p.cD, .slice p.AF p.fs.length p.cF], .agg #[.int .i64 (yf : Int), .int .i64 (yn : Int)]] w2 (TakesPost w2 T) from by rw [hT]; exact takes_any p yf yn w2 hP2)
  have HP2 := Lib.hid hP2
  have HX2 := Lib.hid hX2
  have HI2 := Lib.hid hI2
  have HN2 := Lib.hid hN2
  have Hw1 := Lib.hid hw1
  have Hgx := Lib.hid hgx
  have Hgi := Lib.hid hgi
  have Hw2 := Lib.hid hw2
  have Hgn := Lib.hid hgn
  have Hy := Lib.hid hy
  have Hlen := Lib.hid hlen
  have HyE := Lib.hid (show yf = y.x.f ∧ yn = y.x.n ∧ yh = y.x.h ∧ yg = y.g ∧ bn = y.x.been.length ∧ takesL p.plain y.x.f y.x.n = T from ⟨hyf, hyn, hyh, hyg, hbn, hT'⟩)
  have Hp0 := Lib.hid hp
  have Hws := Lib.hid (show w1.heap.size = w.heap.size + 2 from by rw [hw1]; simp)
  have Hun := Lib.hid (show -16 ≤ yh ∧ yh ≤ 256 ∧ 0 ≤ T.1 ∧ T.1 ≤ 16 ∧ 0 ≤ T.2 ∧ T.2 ≤ 2 from ⟨hh0, hh1, ht0, ht1, hg0, hg1⟩)
  have HZ := Lib.hid (show gx = w.heap.size ∧ gi = w.heap.size + 1 ∧ gn = w1.heap.size ∧ w.heap.size ≤ w1.heap.size ∧ gl < w.heap.size from ⟨hgx, hgi, hgn, hb1.size, by
    obtain ⟨bq, oq, hbq, hlq, -⟩ := hl.at_ (by rw [frCells_len]; omega)
    injection hbq with hbq
    injection hbq with e1 e2
    rw [e1]; exact hlq⟩)
  have s1 : ((K : Int) + 1 - 1) = (K : Int) := by omega
  have s2 : IntKind.i64.wrap (K : Int) = (K : Int) := by rw [IntKind.wrap_i64]; omega
  have kb : (K : Int) < (K : Int) + 1 := by omega
  have x0 : w2.cell? ⟨gx, 0, none⟩ = some (.int .i64 p.mem) := hX2.cell 0
  have x1 : w2.cell? ⟨gx, 1, none⟩ = some (.slice p.AD p.data.length p.cD) := hX2.cell 1
  have x2 : w2.cell? ⟨gx, 2, none⟩ = some (.slice p.AF p.fs.length p.cF) := hX2.cell 2
  have xl := hX2.lt
  have n0 : w2.cell? ⟨gn, 0, none⟩ = some (.int .i64 (yf : Int)) := hN2.cell 0
  have n1 : w2.cell? ⟨gn, 1, none⟩ = some (.int .i64 (yn : Int)) := hN2.cell 1
  have nl := hN2.lt
  have hcut := fun w' => run_cutF w' gl (K + 1) c K (by omega)
  have Hnx := Lib.hid (show nextL p.plain yf yn = [(yn : Int) + 1] from by rw [hyf, hyn]; exact hnx)
  have Hcl := Lib.hid hcl
  have Hyn := Lib.hid (show (yn : Int) + 1 = ((yn + 1 : Nat) : Int) from by omega)
  clear hnx hcl
  subst hop
  subst haa
  clear hp hl hb1 hX hI hl1 hlc hlc' hT' hb2 hN2 hX2 hI2 hP2 hw1 hgx hgi hw2 hgn hy hlen hyf hyn hyh hyg hbn hT
  go_enter Try.func31, Try.ntmps31
  go_upto_region 1 with (fail)
  rw [← Hw1.out, ← Hgi.out, ← Hgx.out]
  clear Hw1 Hgi Hgx
  go_upto_region 3 with (fail)
  rw [← Hw2.out, ← Hgn.out]
  clear Hw2 Hgn c0 c1 c2 c3 hlb
  go_wp2_with fail
  refine HTk.out.mono ?_
  rintro e w3 ⟨rfl, hb3⟩
  have hX3 := HX2.out.below hb3 HX2.out.lt
  have hN3 := HN2.out.below hb3 HN2.out.lt
  have HI3 := Lib.hid (HI2.out.below hb3 HI2.out.lt)
  have HP3 := Lib.hid (HP2.out.below hb3)
  have HL3 := Lib.hid (HL2.out.below hb3)
  have HB3 := Lib.hid (HB2.out.trans (hb3.mono HB2.out.size))
  have HNx := Lib.hid (show Calls Try.prog 18 #[.agg #[.int .i64 p.mem, .slice p.AD p.data.length p.cD, .slice p.AF p.fs.length p.cF], .agg #[.int .i64 (yf : Int), .int .i64 (yn : Int)]] w3 (IntsPost w3 (nextL p.plain yf yn)) from next_any p yf yn w3 HP3.out)
  have x0' : w3.cell? ⟨gx, 0, none⟩ = some (.int .i64 p.mem) := hX3.cell 0
  have x1' : w3.cell? ⟨gx, 1, none⟩ = some (.slice p.AD p.data.length p.cD) := hX3.cell 1
  have x2' : w3.cell? ⟨gx, 2, none⟩ = some (.slice p.AF p.fs.length p.cF) := hX3.cell 2
  have xl' := hX3.lt
  have n0' : w3.cell? ⟨gn, 0, none⟩ = some (.int .i64 (yf : Int)) := hN3.cell 0
  have n1' : w3.cell? ⟨gn, 1, none⟩ = some (.int .i64 (yn : Int)) := hN3.cell 1
  have nl' := hN3.lt
  have HX3 := Lib.hid hX3
  have HN3 := Lib.hid hN3
  have Hz3 := Lib.hid (show w2.heap.size ≤ w3.heap.size from hb3.size)
  clear hb3 hX3 hN3 x0 x1 x2 xl n0 n1 nl HX2 HN2 HI2 HP2 HL2 HTk
  go_wp2_with fail
  refine HNx.out.mono ?_
  rintro e w4 ⟨A8, c8, rfl, ho8, hb4⟩
  obtain ⟨m8, hm8⟩ : ∃ m, m = (nextL p.plain yf yn).length := ⟨_, rfl⟩
  rw [← hm8]
  have Hm8 := Lib.hid hm8
  have Ho8 := Lib.hid ho8
  have HX4 := Lib.hid (HX3.out.below hb4 HX3.out.lt)
  have HN4 := Lib.hid (HN3.out.below hb4 HN3.out.lt)
  have HI4 := Lib.hid (HI3.out.below hb4 HI3.out.lt)
  have HP4 := Lib.hid (HP3.out.below hb4)
  have HL4 := Lib.hid (HL3.out.below hb4)
  have HB4 := Lib.hid (HB3.out.trans (hb4.mono HB3.out.size))
  have Hz4 := Lib.hid (show gn < w3.heap.size ∧ gx < w3.heap.size ∧ gi < w3.heap.size ∧ w3.heap.size ≤ w4.heap.size from ⟨HN3.out.lt, HX3.out.lt, HI3.out.lt, hb4.size⟩)
  clear hm8 ho8 hb4 x0' x1' x2' xl' n0' n1' nl' HX3 HN3 HI3 HP3 HL3 HB3 HNx
  go_wp2_with (refine wpList_at 38 rfl ?_; refine wp_stop ?_)
  try refine ⟨?_⟩
  have hrt : RV w4 (some ⟨gl, 0, none⟩) ((l.take K).flatMap frCells) := by rw [take_flat]; exact RV.takeR HL4.out (K * 4)
  refine wpList_app rfl (.tmp 34) (.tmp 37) eFr rfl rfl (Own.nil w4 w.heap.size 63 4) (m := K) (c' := c) (us := (l.take K).flatMap frCells) rfl hrt (by rw [frCells_len, List.length_take, Hlen.out]; omega) (fr_one _) (by unfold maxLen; omega) (by omega) HB4.out.size (by intro h; cases h) ?_
  intro A6 c6 w6 hown6 hg6 hA6
  rw [Nat.zero_add, List.nil_append] at hown6
  have hO6 : Only (fun _ => False) w4 w6 := Only.of_grown hg6 (fun k e => by cases e)
  have hb6 : Below w4.heap.size w4 w6 := hO6.below (Nat.le_refl _) (fun _ _ h => h)
  have hI6 := HI4.out.below hb6 HI4.out.lt
  have i0 : w6.cell? ⟨gi, 0, none⟩ = some (.int .i64 17) := hI6.cell 0
  have il := hI6.lt
  have HO6 := Lib.hid (show Own w6 w.heap.size 63 4 A6 K c6 ((l.take K).flatMap frCells) from hown6)
  have HX6 := Lib.hid (HX4.out.below hb6 HX4.out.lt)
  have HN6 := Lib.hid (HN4.out.below hb6 HN4.out.lt)
  have HI6 := Lib.hid hI6
  have HP6 := Lib.hid (HP4.out.below hb6)
  have Ho6 := Lib.hid (Own.below Ho8.out hb6 (Nat.le_refl _))
  have HB6 := Lib.hid (HB4.out.trans (hb6.mono HB4.out.size))
  have Hz6 := Lib.hid (show w4.heap.size ≤ w6.heap.size from hb6.size)
  have HA6 := Lib.hid (show ∀ b, A6.map (·.block) = some b → w4.heap.size ≤ b from fun b e => by
    rcases hA6 with h | h
    · rw [h] at e; cases e
    · rw [e] at h; have := Option.some.inj h; omega)
  clear hrt hown6 hg6 hA6 hO6 hb6 hI6 HX4 HN4 HI4 HP4 HL4 HB4 Ho8 hcut
  have hm1 : m8 = 1 := by rw [Hm8.out, Hnx.out]; rfl
  subst hm1
  obtain ⟨rb, rfl, hrb, -⟩ := own_some Ho6.out (by rw [Hnx.out]; exact Nat.succ_pos _)
  have r0 := (own_at Ho6.out 0 (by rw [List.length_map, Hnx.out]; exact Nat.succ_pos _)).1
  have hr0 : ((nextL p.plain yf yn).map iv)[0]'(by rw [List.length_map, Hnx.out]; exact Nat.succ_pos _) = .int .i64 ((yn : Int) + 1) := by simp only [Hnx.out]; rfl
  rw [hr0] at r0
  have hrl := (Own.row Ho6.out rb rfl).2
  have hrn : ¬ rb = gn := by have := Hz4.out; omega
  have t1 : IntKind.i64.wrap (yh - T.1) = yh - T.1 := by rw [IntKind.wrap_i64]; omega
  have hN6 := HN6.out
  have n0 : w6.cell? ⟨gn, 0, none⟩ = some (.int .i64 (yf : Int)) := hN6.cell 0
  have n1 : w6.cell? ⟨gn, 1, none⟩ = some (.int .i64 (yn : Int)) := hN6.cell 1
  have n2 : w6.cell? ⟨gn, 2, none⟩ = some (.int .i64 yh) := hN6.cell 2
  have n3 : w6.cell? ⟨gn, 3, none⟩ = some (.slice (some ⟨yg, 0, none⟩) bn bn) := hN6.cell 3
  have nf1 := hN6.frozen 1
  have nf2 := hN6.frozen 2
  have nl := hN6.lt
  obtain ⟨w7, hw7⟩ : ∃ w', w' = (w6.setCell ⟨gn, 2, none⟩ (.int .i64 (yh - T.1))).setCell ⟨gn, 1, none⟩ (.int .i64 ((yn : Int) + 1)) := ⟨_, rfl⟩
  have hO7 : Only (fun b => b = gn) w6 w7 := by rw [hw7]; exact ((Only.refl (fun b => b = gn) w6).setCell (p := ⟨gn, 2, none⟩) (.inl rfl) _).setCell (p := ⟨gn, 1, none⟩) (.inl rfl) _
  have hgn6 : ∀ b, A6.map (·.block) = some b → ¬ b = gn := fun b e h => by have := HA6.out b e; have := Hz4.out; omega
  have HO7 := Lib.hid (Own.only HO6.out hO7 fun b o e => hgn6 b (by rw [e]; rfl))
  have HN7 := Lib.hid (show Blk w7 gn 63 #[.int .i64 (yf : Int), .int .i64 ((yn : Int) + 1), .int .i64 (yh - T.1), .slice (some ⟨yg, 0, none⟩) bn bn] from by rw [hw7]; exact (hN6.set_ 2 _).set_ 1 _)
  have hgnw : w.heap.size ≤ gn := by have := HZ.out; omega
  have HB7 := Lib.hid (show Below w.heap.size w w7 from HB6.out.trans (hO7.below (B := w.heap.size) HB6.out.size fun b hb e => by omega))
  have HX7 := Lib.hid (HX6.out.only hO7 (fun e => by have := HZ.out; have := Hws.out; omega))
  have HI7 := Lib.hid (HI6.out.only hO7 (fun e => by have := HZ.out; have := Hws.out; omega))
  have hbp7 : Below w.heap.size w6 w7 := hO7.below HB6.out.size fun b hb e => by omega
  have Hw7 := Lib.hid hw7
  have Hh7 := Lib.hid hO7.size
  clear hN6 hw7 hO7 hgn6 hr0
  go_upto_region 17 with (fail)
  go_upto_region 18 with (fail)
  rw [← Hw7.out]
  clear Hw7 n0 n1 n2 n3 nf1 nf2 nl r0 hrl i0 il
  have n0 : w7.cell? ⟨gn, 0, none⟩ = some (.int .i64 (yf : Int)) := HN7.out.cell 0
  have n1 : w7.cell? ⟨gn, 1, none⟩ = some (.int .i64 ((yn : Int) + 1)) := HN7.out.cell 1
  have n2 : w7.cell? ⟨gn, 2, none⟩ = some (.int .i64 (yh - T.1)) := HN7.out.cell 2
  have n3 : w7.cell? ⟨gn, 3, none⟩ = some (.slice (some ⟨yg, 0, none⟩) bn bn) := HN7.out.cell 3
  have nl := HN7.out.lt
  go_wp2_with (refine wpList_at 77 rfl ?_; refine wp_stop ?_)
  try refine ⟨?_⟩
  refine wpList_app rfl (.tmp 74) (.tmp 76) eFr rfl rfl (Own.below HO7.out ((Below.refl _ _).alloc (Nat.le_refl _) _) (Nat.le_refl _)) (m := 1) (c' := 1) (us := [.int .i64 (yf : Int), .int .i64 ((yn : Int) + 1), .int .i64 (yh - T.1), .slice (some ⟨yg, 0, none⟩) bn bn]) rfl (RV.of_blk (Blk.new w7 63 #[.int .i64 (yf : Int), .int .i64 ((yn : Int) + 1), .int .i64 (yh - T.1), .slice (some ⟨yg, 0, none⟩) bn bn])) rfl (by intro y hy; simp only [List.mem_cons, List.not_mem_nil, or_false] at hy; rcases hy with rfl | rfl | rfl | rfl <;> rfl) (by unfold maxLen; omega) (by omega) (by have := HB7.out.size; simp; omega) (by intro h; cases h) ?_
  intro A9 c9 w9 hown9 hg9 hA9
  have hO9 : Only (fun b => A6.map (·.block) = some b) w7 w9 := Only.grown ((Only.refl _ w7).alloc _) hg9 fun k hk => .inl hk
  have hA6l : ∀ b, A6.map (·.block) = some b → w4.heap.size ≤ b := HA6.out
  have hX9 := HX7.out.only hO9 (fun e => by have := hA6l _ e; have := Hz4.out; omega)
  have hI9 := HI7.out.only hO9 (fun e => by have := hA6l _ e; have := Hz4.out; omega)
  have hb79 : Below w.heap.size w7 w9 := hO9.below HB7.out.size fun b hb e => by have := (Own.row HO7.out b e).1; omega
  have hP9 : PrgAt w9 p := Hp0.out.below (HB7.out.trans hb79)
  obtain ⟨gz, hgz⟩ : ∃ g, p.fs[z]? = some g := ⟨_, List.getElem?_eq_getElem hz⟩
  have hgl : gz.code.length = p.plain.len z := (PrgM.len_plain hgz).symm
  obtain ⟨b0, off0, hA, hb0, -, -, -, q3, -, hFl⟩ := hP9.fn hgz
  obtain ⟨N, hN⟩ : ∃ n, n = p.plain.len z := ⟨_, rfl⟩
  rw [hgl, ← hN] at q3
  have hN4 : N ≤ 4096 := by rw [hN]; exact Hcl.out
  have x2 : w9.cell? ⟨gx, 2, none⟩ = some (.slice (some ⟨b0, off0, none⟩) p.fs.length p.cF) := by rw [← hA]; exact hX9.cell 2
  have xl := hX9.lt
  have i1 : w9.cell? ⟨gi, 1, none⟩ = some (.int .i64 (z : Int)) := hI9.cell 1
  have il := hI9.lt
  have gz1 : (z : Int) < (p.fs.length : Int) := by omega
  have hmk := run_bools N (by omega)
  have HB9 := Lib.hid (HB7.out.trans hb79)
  have HO9 := Lib.hid hown9
  have HN := Lib.hid hN
  obtain ⟨gA, hgA⟩ : ∃ A, A = gz.A := ⟨_, rfl⟩
  obtain ⟨gcc, hgcc⟩ : ∃ A, A = gz.c := ⟨_, rfl⟩
  rw [← hgA, ← hgcc] at q3
  clear hown9 hg9 hA9 hO9 n0 n1 n2 n3 nl hA6l hX9 hI9 hb79 hP9 hgz hgl hA hN hgA hgcc hbp7
  go_wp2_with fail
  obtain ⟨SC, hSCd⟩ : ∃ S : World → Prop, S = fun w' => (w'.cell? ⟨gx, 2, none⟩ = some (.slice (some ⟨b0, off0, none⟩) p.fs.length p.cF) ∧ gx < w'.heap.size) ∧ (w'.cell? ⟨gi, 1, none⟩ = some (.int .i64 (z : Int)) ∧ gi < w'.heap.size) ∧ (w'.cell? ⟨b0, off0 + z * 4 + 3, none⟩ = some (.slice gA N gcc) ∧ b0 < w'.heap.size) := ⟨_, rfl⟩
  have hSC : SC w9.drew := by rw [hSCd]; exact ⟨⟨x2, xl⟩, ⟨i1, il⟩, ⟨q3, hb0⟩⟩
  have HSC := Lib.hid (show SC w9.drew from hSC)
  have HSd := Lib.hid hSCd
  clear hSC hSCd
  refine region_heldT 15 SC (by kernel_rfl) (by decide) ?_
  refine HeadW.take 0 (v := .slice A9 (K + 1) c9) rfl (by kernel_rfl) (by kernel_rfl) (by kernel_rfl) (by decide) (by decide) (fun _ _ _ hL => seqB_ready hL.1) (by kernel_rfl) (by kernel_rfl) (fun _ _ _ h => h) HSC.out (.inl ⟨by kernel_rfl, by intro w hSw; rw [HSd.out] at hSw; obtain ⟨⟨e0, l0⟩, ⟨e1, l1⟩, ⟨e2, l2⟩⟩ := hSw; go_simp⟩) ?_
  simp only [Act.put, List.setIfInBounds_toArray]
  refine HeadW.take 1 (v := .pointer (some ⟨gi, 1, none⟩)) rfl (by kernel_rfl) (by kernel_rfl) (by kernel_rfl) (by decide) (by decide) (fun _ _ _ hL => seqB_ready hL.1) (by kernel_rfl) (by kernel_rfl) (fun _ _ _ h => h) HSC.out (.inl ⟨by kernel_rfl, by intro w hSw; rw [HSd.out] at hSw; obtain ⟨⟨e0, l0⟩, ⟨e1, l1⟩, ⟨e2, l2⟩⟩ := hSw; go_simp⟩) ?_
  simp only [Act.put]
  refine HeadW.take 2 (v := .int .i64 (z : Int)) rfl (by kernel_rfl) (by kernel_rfl) (by kernel_rfl) (by decide) (by decide) (fun _ _ _ hL => seqB_ready hL.1) (by kernel_rfl) (by kernel_rfl) (fun _ _ _ h => h) HSC.out (.inl ⟨by kernel_rfl, by intro w hSw; rw [HSd.out] at hSw; obtain ⟨⟨e0, l0⟩, ⟨e1, l1⟩, ⟨e2, l2⟩⟩ := hSw; go_simp⟩) ?_
  simp only [Act.put]
  try simp only [List.getElem_toArray, List.getElem_cons_succ, List.getElem_cons_zero, List.setIfInBounds_toArray, List.set_cons_succ, List.set_cons_zero]
  refine HeadW.take 3 (v := .agg #[.int .i64 (z : Int), .int .i64 0]) rfl (by kernel_rfl) (by kernel_rfl) (by kernel_rfl) (by decide) (by decide) (fun _ _ _ hL => seqB_ready hL.1) (by kernel_rfl) (by kernel_rfl) (fun _ _ _ h => h) HSC.out (.inl ⟨by kernel_rfl, by intro w hSw; rw [HSd.out] at hSw; obtain ⟨⟨e0, l0⟩, ⟨e1, l1⟩, ⟨e2, l2⟩⟩ := hSw; go_simp⟩) ?_
  simp only [Act.put]
  refine HeadW.take 4 (v := .pointer (some ⟨gx, 2, none⟩)) rfl (by kernel_rfl) (by kernel_rfl) (by kernel_rfl) (by decide) (by decide) (fun _ _ _ hL => seqB_ready hL.1) (by kernel_rfl) (by kernel_rfl) (fun _ _ _ h => h) HSC.out (.inl ⟨by kernel_rfl, by intro w hSw; rw [HSd.out] at hSw; obtain ⟨⟨e0, l0⟩, ⟨e1, l1⟩, ⟨e2, l2⟩⟩ := hSw; go_simp⟩) ?_
  simp only [Act.put]
  refine HeadW.take 5 (v := .slice (some ⟨b0, off0, none⟩) p.fs.length p.cF) rfl (by kernel_rfl) (by kernel_rfl) (by kernel_rfl) (by decide) (by decide) (fun _ _ _ hL => seqB_ready hL.1) (by kernel_rfl) (by kernel_rfl) (fun _ _ _ h => h) HSC.out (.inl ⟨by kernel_rfl, by intro w hSw; rw [HSd.out] at hSw; obtain ⟨⟨e0, l0⟩, ⟨e1, l1⟩, ⟨e2, l2⟩⟩ := hSw; go_simp⟩) ?_
  simp only [Act.put]
  try simp only [List.getElem_toArray, List.getElem_cons_succ, List.getElem_cons_zero, List.setIfInBounds_toArray, List.set_cons_succ, List.set_cons_zero]
  refine HeadW.take 6 (v := .pointer (some ⟨gi, 1, none⟩)) rfl (by kernel_rfl) (by kernel_rfl) (by kernel_rfl) (by decide) (by decide) (fun _ _ _ hL => seqB_ready hL.1) (by kernel_rfl) (by kernel_rfl) (fun _ _ _ h => h) HSC.out (.inl ⟨by kernel_rfl, by intro w hSw; rw [HSd.out] at hSw; obtain ⟨⟨e0, l0⟩, ⟨e1, l1⟩, ⟨e2, l2⟩⟩ := hSw; go_simp⟩) ?_
  simp only [Act.put]
  refine HeadW.take 7 (v := .int .i64 (z : Int)) rfl (by kernel_rfl) (by kernel_rfl) (by kernel_rfl) (by decide) (by decide) (fun _ _ _ hL => seqB_ready hL.1) (by kernel_rfl) (by kernel_rfl) (fun _ _ _ h => h) HSC.out (.inl ⟨by kernel_rfl, by intro w hSw; rw [HSd.out] at hSw; obtain ⟨⟨e0, l0⟩, ⟨e1, l1⟩, ⟨e2, l2⟩⟩ := hSw; go_simp⟩) ?_
  simp only [Act.put]
  refine HeadW.take 8 (v := .pointer (some ⟨b0, off0 + z * 4, none⟩)) rfl (by kernel_rfl) (by kernel_rfl) (by kernel_rfl) (by decide) (by decide) (fun _ _ _ hL => seqB_ready hL.1) (by kernel_rfl) (by kernel_rfl) (fun _ _ _ h => h) HSC.out (.inl ⟨by kernel_rfl, by intro w hSw; rw [HSd.out] at hSw; obtain ⟨⟨e0, l0⟩, ⟨e1, l1⟩, ⟨e2, l2⟩⟩ := hSw; go_simp⟩) ?_
  simp only [Act.put]
  try simp only [List.getElem_toArray, List.getElem_cons_succ, List.getElem_cons_zero, List.setIfInBounds_toArray, List.set_cons_succ, List.set_cons_zero]
  refine HeadW.take 9 (v := .pointer (some ⟨b0, off0 + z * 4 + 3, none⟩)) rfl (by kernel_rfl) (by kernel_rfl) (by kernel_rfl) (by decide) (by decide) (fun _ _ _ hL => seqB_ready hL.1) (by kernel_rfl) (by kernel_rfl) (fun _ _ _ h => h) HSC.out (.inl ⟨by kernel_rfl, by intro w hSw; rw [HSd.out] at hSw; obtain ⟨⟨e0, l0⟩, ⟨e1, l1⟩, ⟨e2, l2⟩⟩ := hSw; go_simp⟩) ?_
  simp only [Act.put]
  refine HeadW.take 10 (v := .slice gA N gcc) rfl (by kernel_rfl) (by kernel_rfl) (by kernel_rfl) (by decide) (by decide) (fun _ _ _ hL => seqB_ready hL.1) (by kernel_rfl) (by kernel_rfl) (fun _ _ _ h => h) HSC.out (.inl ⟨by kernel_rfl, by intro w hSw; rw [HSd.out] at hSw; obtain ⟨⟨e0, l0⟩, ⟨e1, l1⟩, ⟨e2, l2⟩⟩ := hSw; go_simp⟩) ?_
  simp only [Act.put]
  refine HeadW.take 11 (v := .int .i64 (N : Int)) rfl (by kernel_rfl) (by kernel_rfl) (by kernel_rfl) (by decide) (by decide) (fun _ _ _ hL => seqB_ready hL.1) (by kernel_rfl) (by kernel_rfl) (fun _ _ _ h => h) HSC.out (.inl ⟨by kernel_rfl, by intro w hSw; rw [HSd.out] at hSw; obtain ⟨⟨e0, l0⟩, ⟨e1, l1⟩, ⟨e2, l2⟩⟩ := hSw; go_simp⟩) ?_
  simp only [Act.put]
  try simp only [List.getElem_toArray, List.getElem_cons_succ, List.getElem_cons_zero, List.setIfInBounds_toArray, List.set_cons_succ, List.set_cons_zero]
  have hS9 : ∀ w', Below w9.heap.size w9 w' → SC w' := fun w' hb => by
    have h := HSC.out
    rw [HSd.out] at h ⊢
    obtain ⟨⟨e0, l0⟩, ⟨e1, l1⟩, ⟨e2, l2⟩⟩ := h
    obtain ⟨hc, -⟩ := bcell hb
    have hz := hb.size
    exact ⟨⟨(hc _ _ l0).trans e0, Nat.lt_of_lt_of_le l0 hz⟩, ⟨(hc _ _ l1).trans e1, Nat.lt_of_lt_of_le l1 hz⟩, ⟨(hc _ _ l2).trans e2, Nat.lt_of_lt_of_le l2 hz⟩⟩
  refine headW_one 12 rfl (by decide) (by kernel_rfl) (by kernel_rfl) fun K' hK' => ?_
  go_simp
  have hBa := (Below.refl w9.heap.size w9).alloc (Nat.le_refl _) (.cells (Array.replicate N (bo false)) 4)
  have hSa := hS9 _ hBa.drew
  refine hK'.out _ _ hSa (fun hHeld => ?_)
  clear hK' K' hHeld
  try simp only [List.getElem_toArray, List.getElem_cons_succ, List.getElem_cons_zero, List.setIfInBounds_toArray, List.set_cons_succ, List.set_cons_zero]
  refine HeadW.take 13 (v := .agg #[.int .i64 (z : Int), .int .i64 0, .int .i64 0, .slice (some ⟨w9.heap.size, 0, none⟩) N N]) rfl (by kernel_rfl) (by kernel_rfl) (by kernel_rfl) (by decide) (by decide) (fun _ _ _ hL => seqB_ready hL.1) (by kernel_rfl) (by kernel_rfl) (fun _ _ _ h => h) hSa (.inl ⟨by kernel_rfl, by intro w hSw; rw [HSd.out] at hSw; obtain ⟨⟨e0, l0⟩, ⟨e1, l1⟩, ⟨e2, l2⟩⟩ := hSw; go_simp⟩) ?_
  simp only [Act.put]
  refine headW_one 14 rfl (by decide) (by kernel_rfl) (by kernel_rfl) fun K' hK' => ?_
  go_simp
  have hSb := hS9 _ ((hBa.alloc (by have := hBa.size; omega) (.cells #[.int .i64 (z : Int), .int .i64 0, .int .i64 0, .slice (some ⟨w9.heap.size, 0, none⟩) N N] 63)).drew)
  refine hK'.out _ _ hSb (fun hHeld => ?_)
  clear hK' K' hHeld
  try simp only [List.getElem_toArray, List.getElem_cons_succ, List.getElem_cons_zero, List.setIfInBounds_toArray, List.set_cons_succ, List.set_cons_zero]
  refine fun hInv => ⟨by kernel_rfl, ?_⟩
  clear hInv
  simp only [List.drop_succ_cons, List.drop_zero]
  clear hSb hSa hBa hS9 HSC HSd
  clear SC
  go_wp2_with (refine wpList_at 93 rfl ?_; refine wp_stop ?_)
  try refine ⟨?_⟩
  obtain ⟨w10, hw10⟩ : ∃ w', w' = w9.alloc (.cells (Array.replicate N (bo false)) 4) := ⟨_, rfl⟩
  obtain ⟨gB, hgB⟩ : ∃ g, g = w9.heap.size := ⟨_, rfl⟩
  have hb10 : Below w9.heap.size w9 w10 := by rw [hw10]; exact (Below.refl _ w9).alloc (Nat.le_refl _) _
  have hL10 : OwnL w10 w.heap.size (some ⟨gB, 0, none⟩) N N (List.replicate N false) := by
    rw [hw10, hgB, show Array.replicate N (bo false) = ((List.replicate N false).map bo).toArray from by simp]
    exact (OwnL.lit w9 N (by omega) _ (by simp)).mono HB9.out.size
  have hz10 : w10.heap.size = gB + 1 := by rw [hw10, hgB]; simp
  have HO10 := Lib.hid (Own.below HO9.out hb10 (Nat.le_refl _))
  have HB10 := Lib.hid (HB9.out.trans (hb10.mono HB9.out.size))
  have Hgb := Lib.hid (fun b (e : A9.map (·.block) = some b) => show b < gB from by rw [hgB]; exact (Own.row HO9.out b e).2)
  have Hw10 := Lib.hid hw10
  have HgB := Lib.hid hgB
  have HL10 := Lib.hid hL10
  clear hw10 hgB hb10 hL10
  rw [← Hw10.out, ← HgB.out]
  have hrb : RV (w10.alloc (.cells #[.int .i64 (z : Int), .int .i64 0, .int .i64 0, .slice (some ⟨gB, 0, none⟩) N N] 63)).drew (some ⟨gB + 1, 0, none⟩) [.int .i64 (z : Int), .int .i64 0, .int .i64 0, .slice (some ⟨gB, 0, none⟩) N N] := by
    rw [← hz10]
    exact (RV.of_blk (Blk.new w10 63 #[.int .i64 (z : Int), .int .i64 0, .int .i64 0, .slice (some ⟨gB, 0, none⟩) N N])).below ((Below.refl _ _).drew)
  refine wpList_app rfl (.tmp 78) (.tmp 92) eFr rfl rfl (Own.below HO10.out (((Below.refl _ _).alloc (Nat.le_refl _) _).drew) (Nat.le_refl _)) (m := 1) (c' := 1) (us := [.int .i64 (z : Int), .int .i64 0, .int .i64 0, .slice (some ⟨gB, 0, none⟩) N N]) rfl hrb rfl (by intro y hy; simp only [List.mem_cons, List.not_mem_nil, or_false] at hy; rcases hy with rfl | rfl | rfl | rfl <;> rfl) (by unfold maxLen; omega) (by omega) (by have := HB10.out.size; simp; omega) (by intro h; cases h) ?_
  intro A11 c11 w11 hown11 hg11 hA11
  have hO11 : Only (fun b => A9.map (·.block) = some b) w10 w11 := Only.grown (((Only.refl _ w10).alloc _).drew) hg11 fun k hk => .inl hk
  have HB11 := Lib.hid (HB10.out.trans (hO11.below (B := w.heap.size) HB10.out.size fun b hb e => by have := (Own.row HO10.out b e).1; omega))
  have HL11 := Lib.hid (Own.only HL10.out hO11 (fun b o e e2 => by
    have e3 := Option.some.inj e
    injection e3 with e3
    have := Hgb.out b e2
    omega))
  have HO11 := Lib.hid hown11
  clear hown11 hg11 hA11 hO11 hrb hz10 x2 xl i1 il q3 hmk
  go_wp2_with fail
  go_ret
  obtain ⟨y1, y2, y3, y4, y5, y6⟩ := HyE.out
  refine ⟨A11, c11, gB, rfl, ?_, by rw [← HN.out]; exact HL11.out, HB11.out⟩
  rw [List.flatMap_append, y6, ← y1, ← y2, ← y3, ← HN.out]
  have e : [(⟨⟨yf, yn + 1, yh - T.1, y.x.been⟩, y.g⟩ : FrM), ⟨⟨z, 0, 0, List.replicate N false⟩, gB⟩].flatMap frCells = [.int .i64 (yf : Int), .int .i64 ((yn : Int) + 1), .int .i64 (yh - T.1), .slice (some ⟨yg, 0, none⟩) bn bn] ++ [.int .i64 (z : Int), .int .i64 0, .int .i64 0, .slice (some ⟨gB, 0, none⟩) N N] := by
    show ([.int .i64 (yf : Int), .int .i64 ((yn + 1 : Nat) : Int), .int .i64 (yh - T.1), .slice (some ⟨y.g, 0, none⟩) y.x.been.length y.x.been.length, .int .i64 (z : Int), .int .i64 ((0 : Nat) : Int), .int .i64 0, .slice (some ⟨gB, 0, none⟩) (List.replicate N false).length (List.replicate N false).length] : List Value) = _
    rw [← y4, ← y5, Hyn.out, List.length_replicate]
    rfl
  have h := HO11.out
  rw [List.append_assoc] at h
  first
    | (rw [e]; exact h)
    | (rw [show ∀ (a b : FrM), [a] ++ [b] = [a, b] from fun _ _ => rfl, e]; exact h)
end Go.Proofs.Ytcmpmhlcfalbhaa
