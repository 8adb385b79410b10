/- The walk of the law's GrownBytes. -/
import Derived.Test.YtefaapcekbgjoaaGrownL
import Derived.Test.YtefaapcekbgjoaaQTail
import Derived.Test.YtefaapcekbgjoaaApp2
namespace Go.Proofs.Ytefaapcekbgjoaa
open Go.RowKit

def pv (p : Part) : Value := .slice p.A p.ys.length p.c
/-- Every list is the call's own; list k is being written. -/
def Written1 (w : World) (base : Nat) (ps : List Part) (k j : Nat) : Prop := ∀ t p, ps[t]? = some p → OwnB w base p.A p.ys.length p.c (curL k j t p.ys)
def ofPs (ps : List Part) (b : Nat) : Prop := ∃ p, p ∈ ps ∧ p.A.map (·.block) = some b
theorem row_info : (Try.prog.info? 22).map (fun i => (i.zero, i.size, i.bytes)) = some (some (.slice none 0 0), 1, 24) := by kernel_rfl
theorem eRow : Elem Try.prog 91 22 1 24 := elem_of Try.underlying91 row_info rfl (by decide)
def rowsV (ps : List Part) (GA : Nat → Option Addr) (GC : Nat → Nat) (k : Nat) : List Value := (List.range k).map fun t => .slice (GA t) ((ps.map fun p => p.ys.length).getD t 0 + 96) (GC t)
/-- Behind k lists that were appended to. -/
structure More (w0 wr : World) (B base : Nat) (ps : List Part) (k : Nat) (GA : Nat → Option Addr) (GC : Nat → Nat) (AM : Option Addr) (cM : Nat) : Prop where
  row : Own wr B 22 1 AM k cM (rowsV ps GA GC k)
  done : ∀ t p, t < k → ps[t]? = some p → OwnB wr base (GA t) (p.ys.length + 96) (GC t) (marksL t p.ys.length ++ tailL t 96) ∧ RV wr p.A ((marksL t p.ys.length).map bv) ∧ ∀ b o, GA t = some ⟨b, o, none⟩ → p.A = some ⟨b, o, none⟩ ∨ B ≤ b
  rest : ∀ t p, k ≤ t → ps[t]? = some p → OwnB wr base p.A p.ys.length p.c (marksL t p.ys.length)
  sole : ∀ t t', t < t' → t' < k → ∀ b o o', GA t = some ⟨b, o, none⟩ → GA t' ≠ some ⟨b, o', none⟩
  only : Only (ofPs ps) w0 wr
  size : B ≤ wr.heap.size
theorem rowsV_next (ps : List Part) (GA : Nat → Option Addr) (GC : Nat → Nat) (k : Nat) (p : Part) (A : Option Addr) (c : Nat) (hp : ps[k]? = some p) :
    rowsV ps (fun t => if t = k then A else GA t) (fun t => if t = k then c else GC t) (k + 1) = rowsV ps GA GC k ++ [.slice A (p.ys.length + 96) c] := by
  unfold rowsV
  rw [List.range_succ, List.map_append]
  congr 1
  · refine List.map_congr_left fun j hj => ?_
    have := List.mem_range.1 hj
    dsimp only
    rw [if_neg (by omega), if_neg (by omega)]
  · simp [hp]
theorem More.step {w0 w2 w3 wx w5 : World} {B base k c cM c5 : Nat} {ps : List Part} {GA : Nat → Option Addr} {GC : Nat → Nat} {AM A A5 : Option Addr} {p : Part} (hM : More w0 w2 B base ps k GA GC AM cM) (hw0 : w0.heap.size ≤ B) (hp : ps[k]? = some p)
    (hplt : ∀ p ∈ ps, ∀ b o, p.A = some ⟨b, o, none⟩ → b < B) (hform : ∀ p ∈ ps, ∀ b, p.A.map (·.block) = some b → p.A = some ⟨b, 0, none⟩)
    (hsole : ∀ (i j : Nat) (p q : Part), i < j → ps[i]? = some p → ps[j]? = some q → ∀ b, p.A.map (·.block) = some b → q.A.map (·.block) ≠ some b)
    (hO : Only (fun b => p.A.map (·.block) = some b) w2 w3) (hown : OwnB w3 base A (p.ys.length + 96) c (marksL k p.ys.length ++ tailL k 96)) (hrv : RV w3 p.A ((marksL k p.ys.length).map bv))
    (hA : ∀ b o, A = some ⟨b, o, none⟩ → p.A = some ⟨b, o, none⟩ ∨ w2.heap.size ≤ b) (hb : Below w3.heap.size w3 wx) (hg : wx.grownBy w5 (AM.map (·.block))) (hown5 : Own w5 B 22 1 A5 (k + 1) c5 (rowsV ps GA GC k ++ [.slice A (p.ys.length + 96) c])) :
    More w0 w5 B base ps (k + 1) (fun t => if t = k then A else GA t) (fun t => if t = k then c else GC t) A5 c5 := by
  have hpm := List.mem_of_getElem? hp
  have hT := Only.of_grown (S := fun q => AM.map (·.block) = some q) hg fun q e => e
  have hAM : ∀ q, AM.map (·.block) = some q → B ≤ q ∧ q < w2.heap.size := Own.row hM.row
  have hz := hO.size
  have hzx := hb.size
  have hz5 := hT.size
  have hothers : ∀ t q, t ≠ k → ps[t]? = some q → ∀ b, q.A.map (·.block) = some b → p.A.map (·.block) ≠ some b := fun t q ht hq b e e2 => by
    rcases Nat.lt_or_gt_of_ne ht with h | h
    · exact hsole t k q p h hq hp b e e2
    · exact hsole k t p q h hp hq b e2 e
  have hrow3 : Own w3 B 22 1 AM k cM (rowsV ps GA GC k) := hM.row.only hO fun b o e e2 => by
    have h1 := (hAM b (by rw [e]; rfl)).1
    have h2 := hplt p hpm b 0 (hform p hpm b e2)
    omega
  have hrowx := Own.below hrow3 hb (Nat.le_refl _)
  have keepB : ∀ {b0 n0 c0 : Nat} {A0 : Option Addr} {ys : List UInt8}, OwnB wx b0 A0 n0 c0 ys → OwnB w5 b0 A0 n0 c0 ys := fun h => Own.only h hT fun b o e e2 => hrowx.ne_map2 h (by decide) b o e e2
  refine ⟨by rw [rowsV_next ps GA GC k p A c hp]; exact hown5, fun t q ht hq => ?_, fun t q ht hq => ?_, fun t t' htt ht' b o o' e e' => ?_, ?_, by have := hM.size; omega⟩
  · by_cases htk : t = k
    · subst htk
      rw [hp] at hq
      injection hq with hq
      subst hq
      rw [if_pos rfl, if_pos rfl]
      refine ⟨keepB (Own.below hown hb (Nat.le_refl _)), (hrv.below hb).only hT fun _ b o e e2 => ?_, fun b o e => (hA b o e).imp id fun h => Nat.le_trans hM.size h⟩
      have h1 := (hAM b e2).1
      have h2 := hplt p hpm b o e
      omega
    · rw [if_neg htk, if_neg htk]
      obtain ⟨h1, h2, h3⟩ := hM.done t q (by omega) hq
      have hqm := List.mem_of_getElem? hq
      refine ⟨keepB (Own.below (Own.only h1 hO fun b o e e2 => ?_) hb (Nat.le_refl _)), ((h2.only hO fun _ b o e e2 => hothers t q htk hq b (by rw [e]; rfl) e2).below hb).only hT fun _ b o e e2 => ?_, h3⟩
      · rcases h3 b o e with h4 | h4
        · exact hothers t q htk hq b (by rw [h4]; rfl) e2
        · have := hplt p hpm b 0 (hform p hpm b e2)
          omega
      · have h4 := (hAM b e2).1
        have h5 := hplt q hqm b o e
        omega
  · have hqo := hM.rest t q (by omega) hq
    exact keepB (Own.below (Own.only hqo hO fun b o e e2 => hothers t q (by omega) hq b (by rw [e]; rfl) e2) hb (Nat.le_refl _))
  · rw [if_neg (by omega)] at e
    by_cases htk : t' = k
    · rw [if_pos htk] at e'
      obtain ⟨q, hq⟩ : ∃ q, ps[t]? = some q := ⟨_, List.getElem?_eq_getElem (by have := (List.getElem?_eq_some_iff.1 hp).1; omega)⟩
      obtain ⟨h1, -, h3⟩ := hM.done t q (by omega) hq
      have hlt := (Own.row h1 b (by rw [e]; rfl)).2
      rcases hA b o' e' with h4 | h4
      · rcases h3 b o e with h5 | h5
        · exact hothers t q (by omega) hq b (by rw [h5]; rfl) (by rw [h4]; rfl)
        · have := hplt p hpm b o' h4
          omega
      · omega
    · rw [if_neg htk] at e'
      exact hM.sole t t' htt (by omega) b o o' e e'
  · have h1 := hM.only.trans (hO.mono fun q _ e => ⟨p, hpm, e⟩)
    exact (h1.trans (Only.of_fresh hb)).more hT fun q hq e => by
      have h2 := (hAM q e).1
      omega
set_option maxRecDepth 100000 in
set_option maxHeartbeats 2000000 in
theorem grown_any (L : Option Addr) (cL base : Nat) (ps : List Part) (w : World) (hR : RV w L (ps.map pv)) (hown : ∀ p ∈ ps, OwnB w base p.A p.ys.length p.c p.ys)
    (hsole : ∀ (i j : Nat) (p q : Part), i < j → ps[i]? = some p → ps[j]? = some q → ∀ b, p.A.map (·.block) = some b → q.A.map (·.block) ≠ some b)
    (hfar : ∀ b o, L = some ⟨b, o, none⟩ → ¬ ofPs ps b) (hlen : ∀ p ∈ ps, p.ys.length ≤ 4194304) (hn : ps.length ≤ 100000) (hb0 : base ≤ w.heap.size) :
    Calls Try.prog 53 #[.slice L ps.length cL] w fun e w' => e = .returned (.bool true) ∧ Only (ofPs ps) w w' := by
  have hW0 : Written1 w base ps 0 0 := fun t p hp => by
    have h := hown p (List.mem_of_getElem? hp)
    unfold curL
    rw [if_neg (by omega)]
    split
    · rw [List.take_zero, List.nil_append, List.drop_zero]; exact h
    · exact h
  have HW0 := Lib.hid hW0
  have HR := Lib.hid hR
  have Hsole := Lib.hid hsole
  have Hfar := Lib.hid hfar
  have Hlen := Lib.hid hlen
  clear hW0 hR hown hsole hfar hlen
  go_enter Try.func53, Try.ntmps53
  go_wp2_with fail
  go_loopw [3] (fun i wr => ∃ k : Nat, k ≤ ps.length ∧ i = .int .i64 k ∧ Written1 wr base ps k 0 ∧ Only (ofPs ps) w wr) (fun i _ => ps.length - (intOf i).toNat)
  case atStart => exact ⟨0, Nat.zero_le _, rfl, HW0.out, Only.refl _ _⟩
  case round =>
    rename World => w1
    obtain ⟨k, hk, rfl, hW, hO⟩ := hrel
    by_cases hlt : k < ps.length
    · have g1 : (k : Int) < (ps.length : Int) := by omega
      have hRr := HR.out.only hO fun _ b o e h => Hfar.out b o e h
      obtain ⟨lb, lo, rfl, hlb, hc⟩ := hRr.at_ (by rw [List.length_map]; omega)
      obtain ⟨p, hp⟩ : ∃ p, ps[k]? = some p := ⟨_, List.getElem?_eq_getElem hlt⟩
      have hpm := List.mem_of_getElem? hp
      have hrow : w1.cell? ⟨lb, lo + k, none⟩ = some (.slice p.A p.ys.length p.c) := hc k _ (by rw [List.getElem?_map, hp]; rfl)
      have hpl := Hlen.out p hpm
      have hflb : ¬ ofPs ps lb := Hfar.out lb lo rfl
      have HW := Lib.hid hW
      have HO := Lib.hid hO
      have Hp := Lib.hid hp
      have Hpm := Lib.hid hpm
      clear hW hO hp hpm hRr hc
      go_wp2_with fail
      go_loopw [4] (fun i wq => ∃ j : Nat, j ≤ p.ys.length ∧ i = .int .i64 j ∧ Written1 wq base ps k j ∧ Only (ofPs ps) w1 wq) (fun i _ => p.ys.length - (intOf i).toNat)
      case atStart => exact ⟨0, Nat.zero_le _, rfl, HW.out, Only.refl _ _⟩
      case round =>
        rename World => wq
        obtain ⟨j, hj, rfl, hWq, hOq⟩ := hrel
        have hrowq : wq.cell? ⟨lb, lo + k, none⟩ = some (.slice p.A p.ys.length p.c) := by rw [(ocell hOq).1 _ _ hlb hflb]; exact hrow
        have hlbq : lb < wq.heap.size := Nat.lt_of_lt_of_le hlb hOq.size
        clear hrow
        by_cases hltj : j < p.ys.length
        · have g2 : (j : Int) < (p.ys.length : Int) := by omega
          have hq := hWq k p Hp.out
          obtain ⟨g, hA⟩ : ∃ g, p.A = some ⟨g, 0, none⟩ := by
            rcases hq.2 with ⟨hv, h0⟩ | ⟨g, cap, cur, hv, _⟩
            · omega
            · exact ⟨g, by injection hv⟩
          rw [hA] at hq hrowq
          have HWq := Lib.hid hWq
          have HOq := Lib.hid hOq
          have HA := Lib.hid hA
          have hmk : ∀ m, Calls Try.prog 76 #[.int .i64 (k : Int), .int .i64 (j : Int)] (wq.drewN m) fun e w' => e = .returned (.int .u8 (markN k j : Int)) ∧ ∃ n, w' = (wq.drewN m).drewN n := fun m => (mark_any k j (wq.drewN m) (by omega) (by omega)).mono fun _ _ ⟨he, hw⟩ => ⟨he, 0, hw⟩
          have Hmk := Lib.hid hmk
          clear hq hWq hOq hA hmk
          go_wp2_with fail
          refine region_quiet_tail 9 (fun w' => ∃ m, w' = wq.drewN m) (by kernel_rfl) (by kernel_rfl) ⟨1, rfl⟩ ?_
          simp only [List.take_succ_cons, List.take_zero, List.drop_succ_cons, List.drop_zero]
          repeat (go_big_quiet_step (exact Calls.quiet_of (Hmk.out _)))
          refine wpQuiet_nil ?_
          rintro _ ⟨m, rfl⟩
          have hWq := fun t p hp => Own.below (HWq.out t p hp) (below_drewN (Below.refl wq.heap.size wq) m) (Nat.le_refl _)
          have hOq := HOq.out.trans (Only.of_fresh (below_drewN (Below.refl wq.heap.size wq) m))
          generalize wq.drewN m = w2 at *
          have hq := hWq k p Hp.out
          rw [HA.out] at hq
          obtain ⟨⟨v, hv⟩, hf, hgl⟩ := own_cell hq j hltj
          have hput := own_put hq j (UInt8.ofNat (markN k j))
          rw [← curL_next k j p.ys hltj, bv_mark] at hput
          have Hput := Lib.hid hput
          have HWq2 := Lib.hid hWq
          have HOq2 := Lib.hid hOq
          clear hput hq hWq hOq Hmk hrowq
          go_wp2_with fail
          refine ⟨⟨j + 1, by omega, by go_num, ?_, ?_⟩, by simp [intOf]; omega⟩
          · intro t q hq
            by_cases htk : t = k
            · subst htk
              have e := Hp.out
              rw [hq] at e
              injection e with e
              subst e
              rw [HA.out]
              exact Hput.out
            · rw [curL_other k (j + 1) j t q.ys htk]
              refine Own.only (HWq2.out t q hq) ((Only.refl (fun b => b = g) w2).setCell (p := ⟨g, j, none⟩) (.inl rfl) _) fun b o e e2 => ?_
              have e3 : p.A.map (·.block) = some g := by rw [HA.out]; rfl
              have e4 : q.A.map (·.block) = some g := by rw [e, ← e2]; rfl
              rcases Nat.lt_or_gt_of_ne htk with h | h
              · exact Hsole.out t k q p h hq Hp.out g e4 e3
              · exact Hsole.out k t p q h Hp.out hq g e3 e4
          · exact HOq2.out.setCell (p := ⟨g, j, none⟩) (.inl ⟨p, Hpm.out, by rw [HA.out]; rfl⟩) _
        · have g2 : ¬ (j : Int) < (p.ys.length : Int) := by omega
          obtain rfl : j = p.ys.length := by omega
          have hOw := HO.out.trans hOq
          have HOw := Lib.hid hOw
          have HWq := Lib.hid hWq
          clear hOw hWq hOq
          go_wp2_with fail
          refine ⟨⟨k + 1, by omega, by go_num, ?_, HOw.out⟩, by simp [intOf]; omega⟩
          intro t q hq
          rw [← curL_full k t q.ys p.ys.length (fun h => by
            subst h
            have e := Hp.out
            rw [hq] at e
            injection e with e
            rw [e])]
          exact HWq.out t q hq
    · obtain rfl : k = ps.length := by omega
      have hform : ∀ p ∈ ps, ∀ b, p.A.map (·.block) = some b → p.A = some ⟨b, 0, none⟩ := fun p hp b e => by
        obtain ⟨t, ht, rfl⟩ := List.mem_iff_getElem.1 hp
        rcases (hW t _ (List.getElem?_eq_getElem ht)).2 with ⟨hv, _⟩ | ⟨g, cap, cur, hv, _⟩
        · injection hv with h1; rw [h1] at e; cases e
        · have h1 : ps[t].A = some ⟨g, 0, none⟩ := by injection hv
          rw [h1] at e ⊢
          have : g = b := by simpa using e
          rw [this]
      have hplt : ∀ p ∈ ps, ∀ b o, p.A = some ⟨b, o, none⟩ → b < w1.heap.size := fun p hp b o e => by
        obtain ⟨t, ht, rfl⟩ := List.mem_iff_getElem.1 hp
        exact (Own.row (hW t _ (List.getElem?_eq_getElem ht)) b (by rw [e]; rfl)).2
      have hw01 := hO.size
      have Hform := Lib.hid hform
      have Hplt := Lib.hid hplt
      have HW1 := Lib.hid hW
      have HO1 := Lib.hid hO
      clear hW hO hlt hform hplt
      go_wp2_with fail
      go_loopw [5, 6] (fun v i wr => ∃ (k : Nat) (GA : Nat → Option Addr) (GC : Nat → Nat) (AM : Option Addr) (cM : Nat), k ≤ ps.length ∧ i = .int .i64 k ∧ v = .slice AM k cM ∧ More w wr w1.heap.size base ps k GA GC AM cM) (fun _ i _ => ps.length - (intOf i).toNat)
      case atStart =>
        refine ⟨0, fun _ => none, fun _ => 0, none, 0, Nat.zero_le _, rfl, rfl, ⟨Own.nil _ _ _ _, fun t p h => absurd h (by omega), fun t p _ hp => ?_, fun t t' _ h => absurd h (by omega), HO1.out, Nat.le_refl _⟩⟩
        have h := HW1.out t p hp
        unfold curL at h
        rw [if_pos (List.getElem?_eq_some_iff.1 hp).1] at h
        exact h
      case round =>
        rename World => w2
        obtain ⟨k, GA, GC, AM, cM, hk2, rfl, rfl, hM⟩ := hrel
        by_cases hlt : k < ps.length
        · have g1 : (k : Int) < (ps.length : Int) := by omega
          have hRr := HR.out.only hM.only fun _ b o e h => Hfar.out b o e h
          obtain ⟨lb, lo, rfl, hlb, hc⟩ := hRr.at_ (by rw [List.length_map]; omega)
          obtain ⟨p, hp⟩ : ∃ p, ps[k]? = some p := ⟨_, List.getElem?_eq_getElem hlt⟩
          have hpm := List.mem_of_getElem? hp
          have hrow : w2.cell? ⟨lb, lo + k, none⟩ = some (.slice p.A p.ys.length p.c) := hc k _ (by rw [List.getElem?_map, hp]; rfl)
          have hpl := Hlen.out p hpm
          have HM := Lib.hid hM
          have Hp := Lib.hid hp
          have Hpm := Lib.hid hpm
          clear hM hp hpm hRr hc
          go_wp2_with fail
          go_loopw [7, 8] (fun v i wr => ∃ (j : Nat) (A : Option Addr) (c : Nat), j ≤ 96 ∧ i = .int .i64 j ∧ v = .slice A (p.ys.length + j) c ∧ OwnB wr base A (p.ys.length + j) c (marksL k p.ys.length ++ tailL k j) ∧ RV wr p.A ((marksL k p.ys.length).map bv) ∧
            (∀ b o, A = some ⟨b, o, none⟩ → p.A = some ⟨b, o, none⟩ ∨ w2.heap.size ≤ b) ∧ Only (fun b => p.A.map (·.block) = some b) w2 wr) (fun _ i _ => 96 - (intOf i).toNat)
          case atStart =>
            have h := HM.out.rest k p (Nat.le_refl _) Hp.out
            exact ⟨0, p.A, p.c, by omega, rfl, rfl, by simpa [tailL] using h, RV.of_own h, fun b o e => .inl e, Only.refl _ _⟩
          case round =>
            rename World => w3
            obtain ⟨j, A, c, hj, rfl, rfl, hown, hrv, hA, hO⟩ := hrel
            by_cases hltj : j < 96
            · have g2 : (j : Int) < 96 := by omega
              have Hown := Lib.hid hown
              have Hrv := Lib.hid hrv
              have HA := Lib.hid hA
              have HO := Lib.hid hO
              have hsz3 := hO.size
              have hml := markN_lt k j
              have Hml := Lib.hid hml
              clear hown hrv hA hO hml
              go_wp2_with fail
              refine (mark_any k j w3 (by omega) (by omega)).mono ?_
              rintro e w3 ⟨rfl, rfl⟩
              have hml := Hml.out
              have hbs3 : base ≤ w3.heap.size := by have := HM.out.only.size; omega
              have hRow : RV (w3.alloc (.cells #[.int .u8 (255 - (markN k j : Int))] 5)) (some ⟨w3.heap.size, 0, none⟩) [bv (UInt8.ofNat (255 - markN k j))] := by
                rw [bv_tail]
                exact RV.of_blk (Blk.new w3 _ #[_])
              have HRow := Lib.hid hRow
              clear hRow
              go_wp2_with (at_builtin; refine wpList_app2 rfl (.tmp 51) (.tmp 56) eByte rfl (base := base) (n := p.ys.length + j) (c := c) (A := A) (vs := (marksL k p.ys.length ++ tailL k j).map bv) rfl (Hown.out.alloc _) (a' := ⟨w3.heap.size, 0, none⟩) (m := 1) (c' := 1) (us := [bv (UInt8.ofNat (255 - markN k j))]) rfl HRow.out rfl (by intro u hu; rw [List.mem_singleton.1 hu]; rfl) (by omega) (by unfold maxLen; omega) (by omega) (by simp; omega) ?_; intro A4 c4 w4 hown4 hcase4)
              have hpw := HM.out.rest k p (Nat.le_refl _) Hp.out
              have hbx : Below w3.heap.size w3 (w3.alloc (.cells #[.int .u8 (255 - (markN k j : Int))] 5)) := (Below.refl _ _).alloc (Nat.le_refl _) _
              have hO3 := HO.out.trans (Only.of_fresh hbx)
              have hzx := hbx.size
              have hAg : A = none ∨ ∃ g, A = some ⟨g, 0, none⟩ := by
                rcases Hown.out.2 with ⟨hv, _⟩ | ⟨g, cap, cur, hv, _⟩
                · left; injection hv
                · right; exact ⟨g, by injection hv⟩
              have hnew : OwnB w4 base A4 (p.ys.length + (j + 1)) c4 (marksL k p.ys.length ++ tailL k (j + 1)) := by
                rw [tailL_next, ← List.append_assoc]
                unfold OwnB
                rw [List.map_append]
                exact hown4
              have hpre : ∀ g, A4 = some ⟨g, 0, none⟩ → RV w4 (some ⟨g, 0, none⟩) ((marksL k p.ys.length).map bv) := fun g e4 => by
                have h := RV.of_own hnew
                rw [e4] at h
                have h2 := h.cut 0 p.ys.length
                have e : (((marksL k p.ys.length ++ tailL k (j + 1)).map bv).drop 0).take p.ys.length = (marksL k p.ys.length).map bv := by
                  rw [List.drop_zero, ← List.map_take, List.take_append_of_le_length (by rw [length_marksL]; omega), List.take_of_length_le (by rw [length_marksL]; omega)]
                rw [e] at h2
                exact h2
              have hrest : RV w4 p.A ((marksL k p.ys.length).map bv) ∧ (∀ b o, A4 = some ⟨b, o, none⟩ → p.A = some ⟨b, o, none⟩ ∨ w2.heap.size ≤ b) ∧ Only (fun b => p.A.map (·.block) = some b) w2 w4 := by
                rcases hcase4 with ⟨e4, hne, hg⟩ | ⟨hfr, hg⟩
                · subst e4
                  rcases hAg with h | ⟨g, h⟩
                  · exact absurd h hne
                  · subst h
                    have hT := Only.of_grown (S := fun q => q = g) hg fun q e => by simpa using e.symm
                    rcases HA.out g 0 rfl with h1 | h1
                    · rw [h1]
                      exact ⟨hpre g rfl, fun b o e => .inl e, (hO3.trans (hT.mono fun q _ e => by rw [h1, e]; rfl)).mono fun q _ e => by rw [h1] at e; exact e⟩
                    · refine ⟨(Hrv.out.below hbx).only hT fun _ b o e e2 => ?_, HA.out, hO3.more hT fun q hq e => by omega⟩
                      have := (Own.row hpw b (by rw [e]; rfl)).2
                      omega
                · have hT := Only.of_grown (S := fun _ => False) hg fun q e => by cases e
                  exact ⟨(Hrv.out.below hbx).only hT fun _ _ _ _ h => h, fun b o e => .inr (by have := hfr b o e; omega), hO3.more hT fun q hq e => e.elim⟩
              exact ⟨⟨j + 1, A4, c4, by omega, by go_num, rfl, hnew, hrest.1, hrest.2.1, hrest.2.2⟩, by simp [intOf]; omega⟩
            · obtain rfl : j = 96 := by omega
              have g2 : ¬ ((96 : Nat) : Int) < 96 := by omega
              have Hown := Lib.hid hown
              have Hrv := Lib.hid hrv
              have HA := Lib.hid hA
              have HO := Lib.hid hO
              have hsz3 := hO.size
              have hM3 := hO
              clear hown hrv hA hO hM3
              have hsw := HM.out.only.size
              have hB1 : w1.heap.size ≤ w2.heap.size := HM.out.size
              have hnm : ∀ q, p.A.map (·.block) = some q → AM.map (·.block) ≠ some q := fun q e e2 => by
                have h1 := (Own.row HM.out.row q e2).1
                have h2 := Hplt.out p Hpm.out q 0 (Hform.out p Hpm.out q e)
                omega
              have hrow3 : Own w3 w1.heap.size 22 1 AM k cM (rowsV ps GA GC k) := HM.out.row.only HO.out fun b o e e2 => hnm b e2 (by rw [e]; rfl)
              have Hrow3 := Lib.hid hrow3
              clear hrow3
              have hRow : RV (w3.alloc (.cells #[.slice A (p.ys.length + 96) c] 22)) (some ⟨w3.heap.size, 0, none⟩) [.slice A (p.ys.length + 96) c] := RV.of_blk (Blk.new w3 _ #[_])
              have HRow := Lib.hid hRow
              clear hRow
              go_wp2_with (at_builtin; refine wpList_app rfl (.tmp 58) (.tmp 60) eRow rfl (base := w1.heap.size) (n := k) (c := cM) (A := AM) (vs := rowsV ps GA GC k) rfl (Hrow3.out.alloc _) (A' := some ⟨w3.heap.size, 0, none⟩) (m := 1) (c' := 1) (us := [.slice A (p.ys.length + 96) c]) rfl HRow.out rfl (by intro u hu; rw [List.mem_singleton.1 hu]; rfl) (by unfold maxLen; omega) (by omega) (by simp; omega) (by simp) ?_; intro A5 c5 w5 hown5 hg5 hat5)
              have hstep := HM.out.step hw01 Hp.out Hplt.out Hform.out Hsole.out HO.out Hown.out Hrv.out HA.out ((Below.refl _ _).alloc (Nat.le_refl _) _) hg5 hown5
              exact ⟨⟨k + 1, _, _, A5, c5, by omega, by go_num, rfl, hstep⟩, by simp [intOf]; omega⟩
        · obtain rfl : k = ps.length := by omega
          have HM := Lib.hid hM
          clear hM hlt
          go_wp2_with fail
          go_loopw [9] (fun i wr => ∃ k : Nat, k ≤ ps.length ∧ i = .int .i64 k ∧ ∃ m, wr = w2.drewN m) (fun i _ => ps.length - (intOf i).toNat)
          case atStart => exact ⟨0, Nat.zero_le _, rfl, 0, rfl⟩
          case round =>
            obtain ⟨k, hk, rfl, m, rfl⟩ := hrel
            by_cases hlt : k < ps.length
            · have g1 : (k : Int) < (ps.length : Int) := by omega
              have hRr := HR.out.only HM.out.only fun _ b o e h => Hfar.out b o e h
              obtain ⟨lb, lo, rfl, hlb, hc⟩ := hRr.at_ (by rw [List.length_map]; omega)
              obtain ⟨p, hp⟩ : ∃ p, ps[k]? = some p := ⟨_, List.getElem?_eq_getElem hlt⟩
              have hpm := List.mem_of_getElem? hp
              have hrow : w2.cell? ⟨lb, lo + k, none⟩ = some (.slice p.A p.ys.length p.c) := hc k _ (by rw [List.getElem?_map, hp]; rfl)
              have hpl := Hlen.out p hpm
              obtain ⟨hd1, hd2, -⟩ := HM.out.done k p hlt hp
              obtain ⟨mb, mo, rfl, hmb, hmc⟩ := (RV.of_own HM.out.row).at_ (by simp [rowsV]; omega)
              have hmrow : w2.cell? ⟨mb, mo + k, none⟩ = some (.slice (GA k) (p.ys.length + 96) (GC k)) := hmc k _ (by
                have e : ps[k] = p := by rw [List.getElem?_eq_getElem hlt] at hp; injection hp
                simp [rowsV, hlt, e])
              have Hd1 := Lib.hid (RV.of_own hd1)
              have Hd2 := Lib.hid hd2
              clear hRr hc hp hpm hd1 hd2 hmc
              go_wp2_with fail
              go_loopw [11] (fun i wr => ∃ j : Nat, j ≤ p.ys.length ∧ i = .int .i64 j ∧ ∃ m, wr = w2.drewN m) (fun i _ => p.ys.length - (intOf i).toNat)
              case atStart => exact ⟨0, Nat.zero_le _, rfl, m, rfl⟩
              case round =>
                obtain ⟨j, hj, rfl, m2, rfl⟩ := hrel
                by_cases hltj : j < p.ys.length
                · have g2 : (j : Int) < (p.ys.length : Int) := by omega
                  obtain ⟨g, go, hA, hgl, hgc⟩ := Hd2.out.at_ (by rw [List.length_map, length_marksL]; omega)
                  obtain ⟨g', go', hA', hgl', hgc'⟩ := Hd1.out.at_ (by rw [List.length_map, List.length_append, length_marksL]; omega)
                  have hcell : w2.cell? ⟨g, go + j, none⟩ = some (.int .u8 (markN k j : Int)) := by
                    rw [← bv_mark]
                    exact hgc j _ (by simp [marksL, hltj])
                  have hcell' : w2.cell? ⟨g', go' + j, none⟩ = some (.int .u8 (markN k j : Int)) := by
                    rw [← bv_mark]
                    exact hgc' j _ (by rw [List.getElem?_map, List.getElem?_append_left (by rw [length_marksL]; exact hltj)]; simp [marksL, hltj])
                  have hrow2 := hrow
                  have hmrow2 := hmrow
                  rw [hA] at hrow2
                  rw [hA'] at hmrow2
                  have hne : ((markN k j : Int) != (markN k j : Int)) = false := by simp
                  have hmk : ∀ m, Calls Try.prog 76 #[.int .i64 (k : Int), .int .i64 (j : Int)] (w2.drewN m) fun e w' => e = .returned (.int .u8 (markN k j : Int)) ∧ ∃ n, w' = (w2.drewN m).drewN n := fun m => (mark_any k j (w2.drewN m) (by omega) (by omega)).mono fun _ _ ⟨he, hw⟩ => ⟨he, 0, hw⟩
                  have Hmk := Lib.hid hmk
                  have g3 : (j : Int) < (p.ys.length + 96 : Nat) := by omega
                  have g4 : j < p.ys.length + 96 := by omega
                  clear hgc hgc' hA hA' hmk hrow hmrow
                  go_wp2_with fail
                  refine region_quiet (fun w' => ∃ n, w' = w2.drewN n) (by kernel_rfl) (by kernel_rfl) ⟨m2 + 1, rfl⟩ ?_
                  repeat (go_big_quiet_step (exact Calls.quiet_of (Hmk.out _)))
                  refine wpQuiet_nil ?_
                  rintro _ ⟨m3, rfl⟩
                  go_wp2_with fail
                  exact ⟨⟨j + 1, by omega, by go_num, m3, rfl⟩, by simp [intOf]; omega⟩
                · have g2 : ¬ (j : Int) < (p.ys.length : Int) := by omega
                  go_wp2_with fail
                  go_loopw [12] (fun i wr => ∃ j : Nat, j ≤ 96 ∧ i = .int .i64 j ∧ ∃ m, wr = w2.drewN m) (fun i _ => 96 - (intOf i).toNat)
                  case atStart => exact ⟨0, by omega, rfl, m2, rfl⟩
                  case round =>
                    obtain ⟨i, hi, rfl, m4, rfl⟩ := hrel
                    by_cases hlti : i < 96
                    · have g5 : (i : Int) < 96 := by omega
                      obtain ⟨g', go', hA', hgl', hgc'⟩ := Hd1.out.at_ (by rw [List.length_map, List.length_append, length_marksL, length_tailL]; omega)
                      have hcell' : w2.cell? ⟨g', go' + (p.ys.length + i), none⟩ = some (.int .u8 (255 - (markN k i : Int))) := by
                        rw [← bv_tail]
                        exact hgc' _ _ (by rw [List.getElem?_map, List.getElem?_append_right (by rw [length_marksL]; omega), length_marksL, Nat.add_sub_cancel_left]; simp [tailL, hlti])
                      have hmrow2 := hmrow
                      rw [hA'] at hmrow2
                      have hmk : ∀ m, Calls Try.prog 76 #[.int .i64 (k : Int), .int .i64 (i : Int)] (w2.drewN m) fun e w' => e = .returned (.int .u8 (markN k i : Int)) ∧ ∃ n, w' = (w2.drewN m).drewN n := fun m => (mark_any k i (w2.drewN m) (by omega) (by omega)).mono fun _ _ ⟨he, hw⟩ => ⟨he, 0, hw⟩
                      have Hmk := Lib.hid hmk
                      have hml := markN_lt k i
                      have s1 : IntKind.i64.wrap ((p.ys.length : Int) + (i : Int)) = ((p.ys.length + i : Nat) : Int) := by rw [IntWalk.i64_in _ (by omega)]; rfl
                      have g4 : p.ys.length + i < p.ys.length + 96 := by omega
                      clear hgc' hA' hmk hmrow
                      go_wp2_with fail
                      refine region_quiet (fun w' => ∃ n, w' = w2.drewN n) (by kernel_rfl) (by kernel_rfl) ⟨m4 + 1, rfl⟩ ?_
                      repeat (go_big_quiet_step (exact Calls.quiet_of (Hmk.out _)))
                      refine wpQuiet_nil ?_
                      rintro _ ⟨m5, rfl⟩
                      go_wp2_with fail
                      exact ⟨⟨i + 1, by omega, by go_num, m5, rfl⟩, by simp [intOf]; omega⟩
                    · have g5 : ¬ (i : Int) < 96 := by omega
                      go_wp2_with fail
                      exact ⟨⟨k + 1, by omega, by go_num, m4, rfl⟩, by simp [intOf]; omega⟩
            · have g1 : ¬ (k : Int) < (ps.length : Int) := by omega
              have HOn := Lib.hid (HM.out.only.drewN m)
              go_wp2_with fail
              go_ret
              exact ⟨rfl, HOn.out⟩
end Go.Proofs.Ytefaapcekbgjoaa
