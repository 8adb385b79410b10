/- The walk of op's Decode. -/
import Derived.Test.YtmmdkpnoncnjnaaOpDec
namespace Go.Proofs.Ytmmdkpnoncnjnaa
open Go.RowKit
attribute [local go_sem] rowVal

def decR : Except Int (List Ins) → List Ins × Int
  | .ok l => (l, 0)
  | .error f => ([], f)
def decL (bs : List UInt8) : List Ins × Int := if 40960 < bs.length then ([], 2) else decR (decFrom bs (bs.length + 1) [] 0)
def DecPost (w : World) (r : List Ins × Int) (e : Ending) (w' : World) : Prop :=
  ∃ A2 c2, e = .returned (.tuple #[.slice A2 r.1.length c2, .int .i64 r.2]) ∧ Own w' w.heap.size 48 2 A2 r.1.length c2 (r.1.flatMap insCells) ∧ Below w.heap.size w w'
set_option maxRecDepth 100000 in
set_option maxHeartbeats 2000000 in
theorem decode_any (A : Option Addr) (c : Nat) (bs : List UInt8) (w : World) (hS : Sl w ⟨A, c, bs⟩) (hl : bs.length ≤ 140737488351232) :
    Calls Try.prog 21 #[.slice A bs.length c] w (DecPost w (decL bs)) := by
  have hmf : ∀ (fn : Fn) (first cap : Array Value) (w : World), (Instr.makeFunc fn first cap).run Try.prog w = .ok (.func fn first cap) w := fun _ _ _ _ => rfl
  have HS := Lib.hid hS
  clear hS
  by_cases hbig : 40960 < bs.length
  · have g1 : (40960 : Int) < (bs.length : Int) := by omega
    have e : decL bs = ([], 2) := by unfold decL; rw [if_pos hbig]
    rw [e]
    go_enter Try.func21, Try.ntmps21
    go_wp2_with fail
    refine bodyPost_ret (v := .tuple #[.slice none 0 0, .int .i64 2]) ?_ rfl ⟨none, 0, rfl, Own.nil _ _ _ _, (Below.refl _ _).alloc (Nat.le_refl _) _⟩
    simp [results, Try.results21, go_sem]
  have g1 : ¬ (40960 : Int) < (bs.length : Int) := by omega
  obtain ⟨R, hRe⟩ : ∃ R, R = decFrom bs (bs.length + 1) [] 0 := ⟨_, rfl⟩
  have e : decL bs = decR R := by unfold decL; rw [if_neg hbig, hRe]
  rw [e]
  have HRe := Lib.hid hRe
  clear e hRe
  go_enter Try.func21, Try.ntmps21
  go_wp2_with fail
  refine (operands_any _).mono ?_
  rintro e w2 ⟨go, p, rfl, hops, hgo, hpk, hb2⟩
  rw [World.size_alloc] at hgo hpk
  have hbw2 : Below w.heap.size w w2 := ((Below.refl _ _).alloc (Nat.le_refl _) _).trans (hb2.mono (by simp))
  have hBc2 : Blk w2 w.heap.size 30 #[.slice none 0 0] := (Blk.new w _ _).below hb2 (by simp)
  have hz2 : w.heap.size + 1 ≤ w2.heap.size := by have := hb2.size; simpa using this
  have Hops := Lib.hid hops
  have Hbw2 := Lib.hid hbw2
  have HBc2 := Lib.hid hBc2
  clear hb2 hops hbw2 hBc2
  go_wp2_with fail
  refine (shapes_any w2).mono ?_
  rintro e w3 ⟨gs, rfl, hgs, htab, hb3⟩
  have htab : TabAt w3 gs shapeTab := htab
  have hz3 := hb3.size
  have hops3 : OpsAt w3 go p := ⟨Hops.out.row.below hb3 Hops.out.row.lt, fun k h1 h2 => (Hops.out.box k h1 h2).below hb3 (Hops.out.box k h1 h2).lt⟩
  have hBc3 := HBc2.out.below hb3 (by omega)
  have Hb3 := Lib.hid (Hbw2.out.trans (hb3.mono (by omega)))
  have hgsl := htab.lt
  have hgol := hops3.row.lt
  have hpl : ∀ k, 2 ≤ k → k ≤ 6 → p k < w3.heap.size := fun k h1 h2 => (hops3.box k h1 h2).lt
  have Hops3 := Lib.hid hops3
  have Htab3 := Lib.hid htab
  have HBc3 := Lib.hid hBc3
  clear htab hops3 hBc3 hb3 Hops HBc2 Hbw2
  go_wp2_with (refine wpList_at 12 rfl ?_; refine wp_stop ?_)
  refine ⟨?_⟩
  obtain ⟨w4, hw4⟩ : ∃ w4, w4 = (w3.alloc (.cells #[.slice (some ⟨go, 0, none⟩) 7 7] 67)).alloc (.cells #[.slice (some ⟨gs, 0, none⟩) 46 46] 62) := ⟨_, rfl⟩
  rw [← hw4]
  have hb34 : Below w3.heap.size w3 w4 := by rw [hw4]; exact ((Below.refl _ _).alloc (Nat.le_refl _) _).alloc (by simp) _
  have hPO4 : Blk w4 w3.heap.size 67 #[.slice (some ⟨go, 0, none⟩) 7 7] := by rw [hw4]; exact (Blk.new w3 _ _).alloc _
  have hPS4 : Blk w4 (w3.heap.size + 1) 62 #[.slice (some ⟨gs, 0, none⟩) 46 46] := by
    rw [hw4]
    have h := Blk.new (w3.alloc (.cells #[.slice (some ⟨go, 0, none⟩) 7 7] 67)) 62 #[.slice (some ⟨gs, 0, none⟩) 46 46]
    rw [World.size_alloc] at h
    exact h
  have hPC4 := HBc3.out.below hb34 (by omega)
  have hops4 : OpsAt w4 go p := ⟨Hops3.out.row.below hb34 hgol, fun k h1 h2 => (Hops3.out.box k h1 h2).below hb34 (hpl k h1 h2)⟩
  have htab4 : TabAt w4 gs shapeTab := (show Blk w3 gs 23 (tabCells shapeTab).toArray from Htab3.out).below hb34 hgsl
  have hz4 : w3.heap.size + 2 ≤ w4.heap.size := by have := hPS4.lt; omega
  have hbw4 : Below w.heap.size w w4 := Hb3.out.trans (hb34.mono (by omega))
  have hSl4 := HS.out.below hbw4
  have hread := read_any ⟨A, c, bs⟩ w4 hSl4 hl 44 #[] #[.pointer (some ⟨w.heap.size, 0, none⟩), .pointer (some ⟨w3.heap.size + 1, 0, none⟩), .pointer (some ⟨w3.heap.size, 0, none⟩)] (fun b => b = w.heap.size)
    (fun g at_ o f wx => (∃ l AC cC base, R = .ok l ∧ f = 0 ∧ at_ = bs.length ∧ w4.heap.size < base ∧ g < base ∧ wx.cell? ⟨w.heap.size, 0, none⟩ = some (.slice AC l.length cC) ∧ wx.frozen? ⟨w.heap.size, 0, none⟩ = false ∧ Own wx base 48 2 AC l.length cC (l.flatMap insCells) ∧ w.heap.size < wx.heap.size) ∨ (f ≠ 0 ∧ R = .error f ∧ ∃ u, wx.cell? ⟨w.heap.size, 0, none⟩ = some u ∧ wx.frozen? ⟨w.heap.size, 0, none⟩ = false ∧ w.heap.size < wx.heap.size))
    (fun g wx => by go_simp)
    (fun g cg Ag wx hg hbx hrd hA => by
      have hzx := hbx.size
      have hglx := hrd.blk.lt
      refine (dec1_any g cg w.heap.size (w3.heap.size + 1) w3.heap.size gs go p Ag bs wx hrd hl ((hPC4.below hbx (by omega)).cell 0) ((hPC4.below hbx (by omega)).frozen 0) ((hPS4.below hbx (by omega)).cell 0) ((hPO4.below hbx (by omega)).cell 0) ((show Blk w4 gs 23 (tabCells shapeTab).toArray from htab4).below hbx (by omega)) ⟨hops4.row.below hbx (by omega), fun k h1 h2 => (hops4.box k h1 h2).below hbx (by have := hpl k h1 h2; omega)⟩ ⟨by omega, by omega, by omega, by omega, by omega, fun k h1 h2 => by have := hpl k h1 h2; omega⟩ ⟨by omega, by omega, by omega, by omega, fun k h1 h2 => by have := hpk k h1 h2; omega⟩ (fun b o e => by have := hA b o e; omega) R HRe.out).mono ?_
      rintro e wy ⟨hO, h⟩
      have hzy := hO.size
      rcases h with ⟨l, AC, cC, hRl, rfl, hrd2, hc2, hf2, hown2⟩ | ⟨f, at_, hf, hRf, rfl, hrd2, u, hu1, hu2⟩
      · exact ⟨bs.length, false, 0, hrd2, .inl ⟨l, AC, cC, wx.heap.size, hRl, rfl, rfl, by omega, hglx, hc2, hf2, hown2, by omega⟩, hO, .inl rfl⟩
      · exact ⟨at_, true, f, hrd2, .inr ⟨hf, hRf, u, hu1, hu2, by omega⟩, hO, .inr ⟨rfl, hf⟩⟩)
    (fun b hb => by omega)
  dsimp only at hread
  have Hread := Lib.hid hread
  have Hb4 := Lib.hid hbw4
  clear hread hbw4 hb34 hPO4 hPS4 hPC4 hops4 htab4 hSl4 hw4
  go_wp2_with fail
  refine Hread.out.mono ?_
  rintro e w5 ⟨g, at_, o, f, wy, hgg, hT, rfl, hO1, hO2⟩
  have hz5 := hO1.size
  have hB5 : Below w.heap.size w w5 := Hb4.out.trans (hO2.below (by omega) fun q hq e => by omega)
  have key : ∀ u, wy.cell? ⟨w.heap.size, 0, none⟩ = some u → w.heap.size < wy.heap.size → w5.cell? ⟨w.heap.size, 0, none⟩ = some u := fun u h1 h2 => by rw [(ocell hO1).1 _ _ h2 (by omega)]; exact h1
  have keyf : wy.frozen? ⟨w.heap.size, 0, none⟩ = false → w.heap.size < wy.heap.size → w5.frozen? ⟨w.heap.size, 0, none⟩ = false := fun h1 h2 => by rw [(ocell hO1).2 _ _ h2 (by omega)]; exact h1
  have HB5 := Lib.hid hB5
  rcases hT with ⟨l, AC, cC, base, hRl, rfl, rfl, hb1, hb2, hc, hf, hown, hlt⟩ | ⟨hf0, hRf, u, hu1, hu2, hlt⟩
  · have hown5 := Own.only hown hO1 (fun b o e h => by have := (Own.lt hown b o e).1; rcases h with h | h <;> omega)
    have hc5 := key _ hc hlt
    have hf5 := keyf hf hlt
    have hl5 : w.heap.size < w5.heap.size := by omega
    have e0 : readE 0 bs.length bs.length = 0 := by simp [readE]
    have eR : decR R = (l, 0) := by rw [hRl]; rfl
    rw [e0]
    have HF := Lib.hid (show ∀ w', Below w.heap.size w5 w' → Own w' base 48 2 AC l.length cC (l.flatMap insCells) → DecPost w (decR R) (.returned (.tuple #[.slice AC l.length cC, .int .i64 0])) w' from fun w' h h2 => by rw [eR]; exact ⟨AC, cC, rfl, h2.mono (by omega), HB5.out.trans h⟩)
    have Hown5 := Lib.hid hown5
    clear hown hown5 key keyf hO1 hO2 hRl eR e0 hc hf hB5
    go_wp2_with fail
    have hset : Only (fun b => b = w.heap.size) w5 (w5.setCell ⟨w.heap.size, 0, none⟩ (.slice AC l.length cC)) := Only.setCell (S := fun b => b = w.heap.size) (p := ⟨w.heap.size, 0, none⟩) (Only.refl _ w5) (.inl rfl) _
    refine bodyPost_ret (v := .tuple #[.slice AC l.length cC, .int .i64 0]) ?_ rfl (HF.out _ (hset.below (by omega) fun q hq e => by omega) (Own.only Hown5.out hset fun b o e h => by have := (Own.lt Hown5.out b o e).1; omega))
    simp [results, Try.results21, go_sem, hc5]
  · have hc5 := key _ hu1 hlt
    have hf5 := keyf hu2 hlt
    have hl5 : w.heap.size < w5.heap.size := by omega
    have e0 : readE f at_ bs.length = f := by unfold readE; rw [if_pos hf0]
    have eR : decR R = ([], f) := by rw [hRf]; rfl
    rw [e0]
    have HF := Lib.hid (show ∀ w', Below w.heap.size w5 w' → DecPost w (decR R) (.returned (.tuple #[.slice none 0 0, .int .i64 f])) w' from fun w' h => by rw [eR]; exact ⟨none, 0, rfl, Own.nil _ _ _ _, HB5.out.trans h⟩)
    clear key keyf hO1 hO2 hRf eR e0 hu1 hu2 hB5
    go_wp2_with fail
    have hset : Only (fun b => b = w.heap.size) w5 (w5.setCell ⟨w.heap.size, 0, none⟩ (.slice none 0 0)) := Only.setCell (S := fun b => b = w.heap.size) (p := ⟨w.heap.size, 0, none⟩) (Only.refl _ w5) (.inl rfl) _
    refine bodyPost_ret (v := .tuple #[.slice none 0 0, .int .i64 f]) ?_ rfl (HF.out _ (hset.below (by omega) fun q hq e => by omega))
    simp [results, Try.results21, go_sem, hc5]
end Go.Proofs.Ytmmdkpnoncnjnaa
