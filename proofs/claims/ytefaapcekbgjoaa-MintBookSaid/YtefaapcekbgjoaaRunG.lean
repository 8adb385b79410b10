/- The walk of the law's (*sheet).run over any bytes: told, or fallen by its own Reader. -/
import Derived.Test.YtefaapcekbgjoaaRun
namespace Go.Proofs.Ytefaapcekbgjoaa
open Go.RowKit

/-- What one call told, by its kind. -/
inductive Step1 (bs : List UInt8) (a : Nat) : Item → Item → Nat → Prop
  | num {x : Item} {u k a2 : Nat} {p : Part} (hk : x.kind = 1) (h : rNumL bs a = .ok (u, k)) (h2 : a2 = a + k) (hp : p = ⟨none, 0, []⟩ := by rfl) : Step1 bs a x ⟨x.kind, (u : Int), p⟩ a2
  | int {x : Item} {u k a2 : Nat} {p : Part} (hk : x.kind = 2) (h : numberL bs a = .ok (u, k)) (h2 : a2 = a + k) (hp : p = ⟨none, 0, []⟩ := by rfl) : Step1 bs a x ⟨x.kind, unfoldN u, p⟩ a2
  | bool {x : Item} {b : Bool} {v : Int} {a2 : Nat} {p : Part} (hk : x.kind = 3) (h : rBoolL bs a = .ok b) (h2 : a2 = a + 1) (hv : v = (if b = true then 1 else 0) := by rfl) (hp : p = ⟨none, 0, []⟩ := by rfl) : Step1 bs a x ⟨x.kind, v, p⟩ a2
  | bytes {x : Item} {a2 c : Nat} {A : Option Addr} {ys : List UInt8} (hk : x.kind = 4 ∨ x.kind = 5) (h : rBytesL bs a = .ok (ys, a2)) : Step1 bs a x ⟨x.kind, 0, ⟨A, c, ys⟩⟩ a2
  | raw {x : Item} {a2 c : Nat} {A : Option Addr} {ys : List UInt8} (hk : x.kind = 6) (h : rRawL bs a (x.p.ys.length : Int) = .ok ys) (h2 : a2 = a + x.p.ys.length) : Step1 bs a x ⟨x.kind, 0, ⟨A, c, ys⟩⟩ a2
def Step (bs : List UInt8) (a : Nat) (x y : Item) (a2 : Nat) : Prop := y.kind = x.kind ∧ a2 ≤ bs.length ∧ Step1 bs a x y a2
/-- What ends one call. -/
inductive Err1 (bs : List UInt8) (a : Nat) (x : Item) (f : Int) : Prop
  | num (hk : x.kind = 1) (h : rNumL bs a = .error f) : Err1 bs a x f
  | int (hk : x.kind = 2) (h : numberL bs a = .error f) : Err1 bs a x f
  | bool (hk : x.kind = 3) (h : rBoolL bs a = .error f) : Err1 bs a x f
  | bytes (hk : x.kind = 4 ∨ x.kind = 5) (h : rBytesL bs a = .error f) : Err1 bs a x f
  | raw (hk : x.kind = 6) (h : rRawL bs a (x.p.ys.length : Int) = .error f) : Err1 bs a x f
/-- Where a row of calls ends ahead of its end. -/
def Stuck (bs : List UInt8) (all : List Item) (f : Int) : Prop :=
  ∃ (k : Nat) (ats : Nat → Nat) (told : List Item), ∃ h : k < all.length, ats 0 = 0 ∧ (∀ j, j < k → ∀ h2 : j < all.length, ∃ y, told[j]? = some y ∧ Step bs (ats j) all[j] y (ats (j + 1))) ∧ Err1 bs (ats k) all[k] f
theorem number_err {bs : List UInt8} {a : Nat} {f : Int} (h : numberL bs a = .error f) : f ≠ 0 := by
  unfold numberL at h
  repeat' split at h
  all_goals first | (injection h with h; omega) | cases h
theorem rNum_err {bs : List UInt8} {a : Nat} {f : Int} (h : rNumL bs a = .error f) : f ≠ 0 := by
  unfold rNumL at h
  split at h
  · rename_i hn; injection h with h; subst h; exact number_err hn
  · split at h
    · injection h with h; omega
    · cases h
theorem rBool_err {bs : List UInt8} {a : Nat} {f : Int} (h : rBoolL bs a = .error f) : f ≠ 0 := by
  unfold rBoolL at h
  repeat' split at h
  all_goals first | (injection h with h; omega) | cases h
theorem rRaw_err {bs : List UInt8} {a : Nat} {n f : Int} (h : rRawL bs a n = .error f) : f ≠ 0 := by
  unfold rRawL at h
  repeat' split at h
  all_goals first | (injection h with h; omega) | cases h
theorem rBytes_err {bs : List UInt8} {a : Nat} {f : Int} (h : rBytesL bs a = .error f) : f ≠ 0 := by
  unfold rBytesL at h
  split at h
  · rename_i hn; injection h with h; subst h; exact rNum_err hn
  · split at h
    · injection h with h; omega
    · cases h
/-- A told thing whose bytes are the call's own. -/
structure Mine (w : World) (base : Nat) (y : Item) : Prop where
  held : Held w base y.p
  own : y.kind ≠ 5 → OwnB w base y.p.A y.p.ys.length y.p.c y.p.ys
theorem Mine.empty (w : World) (base : Nat) (k n : Int) : Mine w base ⟨k, n, ⟨none, 0, []⟩⟩ := ⟨Held.empty _ _, fun _ => Own.nil _ _ _ _⟩
theorem Mine.of_own {w : World} {base c : Nat} {A : Option Addr} {ys : List UInt8} {k n : Int} (h : OwnB w base A ys.length c ys) : Mine w base ⟨k, n, ⟨A, c, ys⟩⟩ := ⟨Held.of_own h, fun _ => h⟩
theorem Mine.of_held {w : World} {base : Nat} {p : Part} {k n : Int} (h : Held w base p) (hk : k = 5) : Mine w base ⟨k, n, p⟩ := ⟨h, fun hn => absurd hk hn⟩
theorem Mine.only {S : Nat → Prop} {w w' : World} {base : Nat} {y : Item} (h : Mine w base y) (ho : Only S w w') (hn : ∀ b o, y.p.A = some ⟨b, o, none⟩ → ¬ S b) : Mine w' base y := ⟨h.held.only ho hn, fun hk => Own.only (h.own hk) ho hn⟩
theorem Mine.below {w w' : World} {base : Nat} {y : Item} (h : Mine w base y) (hb : Below w.heap.size w w') : Mine w' base y := ⟨h.held.below hb, fun hk => Own.below (h.own hk) hb (Nat.le_refl _)⟩
theorem Mine.ne_blk {w : World} {base g : Nat} {y : Item} {t : TypeId} {cs : Array Value} (h : Mine w base y) (hg : Blk w g t cs) (hne : 5 ≠ t) : ∀ b o, y.p.A = some ⟨b, o, none⟩ → b ≠ g := h.held.ne_blk hg hne
theorem Mine.lt {w : World} {base : Nat} {y : Item} (h : Mine w base y) (b o : Nat) (hb : y.p.A = some ⟨b, o, none⟩) : base ≤ b ∧ b < w.heap.size := by
  have := h.held.blk b o hb
  omega
theorem Own.ne_mine {w : World} {base base' size n c : Nat} {e : TypeId} {A : Option Addr} {vs : List Value} {y : Item} (h : Own w base e size A n c vs) (hp : Mine w base' y) (hne : e ≠ 5) : ∀ b o, y.p.A = some ⟨b, o, none⟩ → A.map (·.block) ≠ some b := h.ne_held hp.held hne
def leftG (bs : List UInt8) (ats : Nat → Nat) (k : Nat) : List Value := (List.range k).map fun j => .int .i64 ((bs.length - ats (j + 1) : Nat) : Int)
theorem leftG_next (bs : List UInt8) (ats : Nat → Nat) (k a2 : Nat) : leftG bs (fun j => if j = k + 1 then a2 else ats j) (k + 1) = leftG bs ats k ++ [.int .i64 ((bs.length - a2 : Nat) : Int)] := by
  unfold leftG
  rw [List.range_succ, List.map_append]
  congr 1
  · refine List.map_congr_left fun j hj => ?_
    have := List.mem_range.1 hj
    dsimp only
    rw [if_neg (by omega)]
  · simp
theorem sole_snoc {told : List Item} {y : Item} (h : ∀ (i j : Nat) (yi yj : Item), i < j → told[i]? = some yi → told[j]? = some yj → ∀ b o o', yi.p.A = some ⟨b, o, none⟩ → yj.p.A ≠ some ⟨b, o', none⟩)
    (hs : ∀ z ∈ told, ∀ b o o', z.p.A = some ⟨b, o, none⟩ → y.p.A ≠ some ⟨b, o', none⟩) {i j : Nat} {yi yj : Item} (hij : i < j) (hi : (told ++ [y])[i]? = some yi) (hj : (told ++ [y])[j]? = some yj) : ∀ b o o', yi.p.A = some ⟨b, o, none⟩ → yj.p.A ≠ some ⟨b, o', none⟩ := by
  have hjl := (List.getElem?_eq_some_iff.1 hj).1
  rw [List.length_append, List.length_singleton] at hjl
  have hi' : told[i]? = some yi := by rw [List.getElem?_append_left (by omega)] at hi; exact hi
  rcases Nat.lt_or_ge j told.length with h1 | h1
  · rw [List.getElem?_append_left h1] at hj
    exact h i j yi yj hij hi' hj
  · obtain rfl : j = told.length := by omega
    rw [List.getElem?_append_right (Nat.le_refl _), Nat.sub_self] at hj
    injection hj with hj
    subst hj
    exact hs yi (List.mem_of_getElem? hi')
/-- A sheet behind k things, over any bytes. -/
structure SheetG (w : World) (bs : List UInt8) (gs g base : Nat) (AW : Option Addr) (cW : Nat) (all : List Item) (k : Nat) (ats : Nat → Nat) (AT : Option Addr) (cT : Nat) (AL : Option Addr) (cL : Nat) (told : List Item) : Prop where
  blk : Blk w gs 83 #[.slice AW all.length cW, .slice AT k cT, .slice AL k cL, .pointer (some ⟨g, 0, none⟩)]
  rowT : Own w base 30 3 AT k cT (told.flatMap itemCells)
  left : Own w base 3 1 AL k cL (leftG bs ats k)
  len : told.length = k
  zero : ats 0 = 0
  step : ∀ j, j < k → ∀ (h2 : j < all.length), ∃ y, told[j]? = some y ∧ Step bs (ats j) all[j] y (ats (j + 1))
  own : ∀ y ∈ told, Mine w base y
  sole : ∀ (i j : Nat) (yi yj : Item), i < j → told[i]? = some yi → told[j]? = some yj → ∀ b o o', yi.p.A = some ⟨b, o, none⟩ → yj.p.A ≠ some ⟨b, o', none⟩
theorem SheetG.below {w w' : World} {bs : List UInt8} {gs g base : Nat} {AW : Option Addr} {cW : Nat} {all : List Item} {k : Nat} {ats : Nat → Nat} {AT : Option Addr} {cT : Nat} {AL : Option Addr} {cL : Nat} {told : List Item}
    (h : SheetG w bs gs g base AW cW all k ats AT cT AL cL told) (hb : Below w.heap.size w w') : SheetG w' bs gs g base AW cW all k ats AT cT AL cL told :=
  ⟨h.blk.below hb h.blk.lt, h.rowT.below hb (Nat.le_refl _), h.left.below hb (Nat.le_refl _), h.len, h.zero, h.step, fun y hy => (h.own y hy).below hb, h.sole⟩
theorem SheetG.onto {w w' : World} {bs : List UInt8} {gs g base : Nat} {AW : Option Addr} {cW : Nat} {all : List Item} {k : Nat} {ats : Nat → Nat} {AT : Option Addr} {cT : Nat} {AL : Option Addr} {cL : Nat} {told : List Item} {cs : Array Value}
    (h : SheetG w bs gs g base AW cW all k ats AT cT AL cL told) (hg : Blk w g 105 cs) (ho : Only (fun b => b = g) w w') (hgs : gs ≠ g) : SheetG w' bs gs g base AW cW all k ats AT cT AL cL told :=
  ⟨h.blk.only ho hgs, h.rowT.only ho fun b o e => h.rowT.ne_blk hg (by decide) b o e, h.left.only ho fun b o e => h.left.ne_blk hg (by decide) b o e, h.len, h.zero, h.step, fun y hy => (h.own y hy).only ho fun b o e => (h.own y hy).ne_blk hg (by decide) b o e, h.sole⟩
/-- The row told, or fallen. -/
def RunPost (gs g c cW : Nat) (A AW : Option Addr) (bs : List UInt8) (all : List Item) (w : World) (e : Ending) (w2 : World) : Prop :=
  Only (fun b => b = g ∨ b = gs) w w2 ∧ ((e = .returned (.tuple #[]) ∧ ∃ ats AT cT AL cL told, Rd w2 g A c bs (ats all.length) false 0 ∧ SheetG w2 bs gs g w.heap.size AW cW all all.length ats AT cT AL cL told) ∨
    (∃ f at_, f ≠ 0 ∧ e = .panicked [endedE g] ∧ Rd w2 g A c bs at_ true f ∧ Stuck bs all f))
set_option maxRecDepth 100000 in
set_option maxHeartbeats 4000000 in
theorem run_gen (gs g c cW : Nat) (A AW : Option Addr) (bs : List UInt8) (all : List Item) (w : World) (hsh : Blk w gs 83 #[.slice AW all.length cW, .slice none 0 0, .slice none 0 0, .pointer none])
    (hR : RV w AW (all.flatMap itemCells)) (hAW : ∀ b o, AW = some ⟨b, o, none⟩ → b ≠ gs ∧ b ≠ g) (hgs : gs ≠ g) (hA : ∀ b o, A = some ⟨b, o, none⟩ → b ≠ gs ∧ b < w.heap.size) (hok : ∀ x ∈ all, 1 ≤ x.kind ∧ x.kind ≤ 6 ∧ x.p.ys.length ≤ 140737488355328)
    (hrd : Rd w g A c bs 0 false 0) (hl : bs.length ≤ 140737488351232) (hn : all.length ≤ 400) :
    Calls Try.prog 50 #[.pointer (some ⟨gs, 0, none⟩), .pointer (some ⟨g, 0, none⟩)] w (RunPost gs g c cW A AW bs all w) := by
  have hgl := hsh.lt
  have hf3 := hsh.frozen 3
  have hc3 : w.cell? ⟨gs, 3, none⟩ = some (.pointer none) := hsh.cell 3
  have Hsh := Lib.hid hsh
  have HR := Lib.hid hR
  have Hrd := Lib.hid hrd
  clear hsh hR hrd
  go_enter Try.func50, Try.ntmps50
  go_wp2_with fail
  have hb1 := Blk.setL (cs := [.slice AW all.length cW, .slice none 0 0, .slice none 0 0, .pointer none]) Hsh.out 3 (.pointer (some ⟨g, 0, none⟩))
  have hs1 : SheetG (w.setCell ⟨gs, 3, none⟩ (.pointer (some ⟨g, 0, none⟩))) bs gs g w.heap.size AW cW all 0 (fun _ => 0) none 0 none 0 [] :=
    ⟨hb1, Own.nil _ _ _ _, Own.nil _ _ _ _, rfl, rfl, fun j h => absurd h (by omega), fun y h => absurd h (by simp), fun _ _ _ _ _ h => absurd h (by simp)⟩
  have ho1 : Only (fun b => b = g ∨ b = gs) w (w.setCell ⟨gs, 3, none⟩ (.pointer (some ⟨g, 0, none⟩))) := (Only.refl _ w).setCell (p := ⟨gs, 3, none⟩) (.inl (.inr rfl)) _
  have hr1 : Rd (w.setCell ⟨gs, 3, none⟩ (.pointer (some ⟨g, 0, none⟩))) g A c bs 0 false 0 := Hrd.out.only ((Only.refl (fun b => b = gs) w).setCell (p := ⟨gs, 3, none⟩) (.inl rfl) _) (fun e => hgs e.symm) fun b o e => (hA b o e).1
  have Hs1 := Lib.hid hs1
  have Ho1 := Lib.hid ho1
  have Hr1 := Lib.hid hr1
  have Hok := Lib.hid hok
  have HAW := Lib.hid hAW
  have HA := Lib.hid hA
  clear hb1 hs1 ho1 hr1 hok hAW hA hf3 hc3
  go_loopw [4] (fun i wr => ∃ (k : Nat) (ats : Nat → Nat) (AT : Option Addr) (cT : Nat) (AL : Option Addr) (cL : Nat) (told : List Item), k ≤ all.length ∧ i = .int .i64 k ∧ SheetG wr bs gs g w.heap.size AW cW all k ats AT cT AL cL told ∧ Rd wr g A c bs (ats k) false 0 ∧ Only (fun b => b = g ∨ b = gs) w wr) (fun i _ => all.length - (intOf i).toNat)
  case atStart => exact ⟨0, fun _ => 0, none, 0, none, 0, [], Nat.zero_le _, rfl, Hs1.out, Hr1.out, Ho1.out⟩
  case round =>
    obtain ⟨k, ats, AT, cT, AL, cL, told, hk, rfl, hS, hrd, hO⟩ := hrel
    have s0 : wr.cell? ⟨gs, 0, none⟩ = some (.slice AW all.length cW) := hS.blk.cell 0
    have hgr := hS.blk.lt
    by_cases hlt : k < all.length
    · have g1 : (k : Int) < (all.length : Int) := by omega
      have hRr := HR.out.only hO (fun _ b o e h => by rcases h with h | h; exact (HAW.out b o e).2 h; exact (HAW.out b o e).1 h)
      obtain ⟨pb, poff, rfl, hpb, ck, cp⟩ := row_kind hRr hlt
      have hx := Hok.out _ (List.getElem_mem hlt)
      obtain ⟨x, hxe⟩ : ∃ x, x = all[k] := ⟨_, rfl⟩
      rw [← hxe] at ck cp hx
      have Hxe := Lib.hid hxe
      have HS := Lib.hid hS
      have Hrd2 := Lib.hid hrd
      have HO := Lib.hid hO
      have Hx := Lib.hid hx
      clear hRr hxe hS hrd hO hx
      obtain ⟨wa, hwa⟩ : ∃ wa, wa = wr.alloc (.cells #[.int .i64 x.kind, .int .i64 0, .slice none 0 0] 30) := ⟨_, rfl⟩
      have hba : Below wr.heap.size wr wa := by rw [hwa]; exact (Below.refl _ _).alloc (Nat.le_refl _) _
      have hBa : Blk wa wr.heap.size 30 #[.int .i64 x.kind, .int .i64 0, .slice none 0 0] := by rw [hwa]; exact Blk.new _ _ _
      have hza : wa.heap.size = wr.heap.size + 1 := by rw [hwa]; simp
      have hrda := Hrd2.out.below hba
      have hga := hrda.blk.lt
      have hgr2 := Hrd2.out.blk.lt
      have hATlt : ∀ b, AT.map (·.block) = some b → w.heap.size ≤ b ∧ b < wr.heap.size := Own.row HS.out.rowT
      have HATlt := Lib.hid hATlt
      have Hwa := Lib.hid hwa
      have Hba := Lib.hid hba
      have HBa := Lib.hid hBa
      have Hrda := Lib.hid hrda
      clear hwa hba hBa hrda hATlt
      by_cases h1 : x.kind = 1
      · have g2 : (x.kind == 1) = true := by rw [beq_iff_eq]; exact h1
        have Hkd := Lib.hid h1
        clear h1
        have hc := rNum_any g c (ats k) A bs wa Hrda.out hl
        cases hr : rNumL bs (ats k) with
        | error f =>
          rw [hr] at hc
          have hfz : f ≠ 0 := rNum_err hr
          have Herr := Lib.hid (show Err1 bs (ats k) x f from Err1.num Hkd.out hr)
          clear hr
          dsimp only at hc
          go_wp2_with fail
          rw [← Hwa.out]
          refine hc.mono ?_
          rintro e w5 ⟨rfl, ⟨at5, hrd5⟩, ho5⟩
          have hO5 : Only (fun b => b = g ∨ b = gs) w w5 := HO.out.trans (((Only.of_fresh Hba.out).trans ho5).mono fun _ _ e => .inl e)
          have HO5 := Lib.hid hO5
          have Hrd5 := Lib.hid hrd5
          clear hO5 hrd5 ho5 hc
          go_wp2_with fail
          exact ⟨rfl, HO5.out, .inr ⟨f, at5, hfz, rfl, Hrd5.out, k, ats, told, hlt, HS.out.zero, HS.out.step, by rw [← Hxe.out]; exact Herr.out⟩⟩
        | ok p =>
          rw [hr] at hc
          obtain ⟨u, n5⟩ := p
          have Hr := Lib.hid hr
          clear hr
          dsimp only at hc
          obtain ⟨a2, ha2⟩ : ∃ a2, a2 = ats k + n5 := ⟨_, rfl⟩
          rw [← ha2] at hc
          have Ha2 := Lib.hid ha2
          clear ha2
          go_wp2_with fail
          rw [← Hwa.out]
          refine hc.mono ?_
          rintro e w5 ⟨rfl, hrd5, ho5⟩
          have hB5 := HBa.out.only ho5 (by omega)
          have hf5 := hB5.frozen 1
          have hc51 : w5.cell? ⟨wr.heap.size, 1, none⟩ = some (.int .i64 0) := hB5.cell 1
          have hgi := hB5.lt
          have Hrd5 := Lib.hid hrd5
          have Ho5 := Lib.hid ho5
          have HB5 := Lib.hid hB5
          clear hc hrd5 ho5 hB5
          go_wp2_with fail
          obtain ⟨y, hy⟩ : ∃ y : Item, y = ⟨x.kind, (u : Int), ⟨none, 0, []⟩⟩ := ⟨_, rfl⟩
          obtain ⟨w6, hw6⟩ : ∃ w6, w6 = w5.setCell ⟨wr.heap.size, 1, none⟩ (.int .i64 (u : Int)) := ⟨_, rfl⟩
          have hB6 : Blk w6 wr.heap.size 30 (itemCells y).toArray := by rw [hw6, hy]; exact Blk.setL (cs := [.int .i64 x.kind, .int .i64 0, .slice none 0 0]) HB5.out 1 _
          have ho6 : Only (fun b => b = g) wr w6 := by rw [hw6]; exact (((Only.of_fresh Hba.out).trans Ho5.out).setCell (p := ⟨wr.heap.size, 1, none⟩) (.inr (Nat.le_refl _)) _)
          have hrd6 : Rd w6 g A c bs a2 false 0 := by
            rw [hw6]
            exact Hrd5.out.only ((Only.refl (fun b => b = wr.heap.size) w5).setCell (p := ⟨wr.heap.size, 1, none⟩) (.inl rfl) _) (by omega) fun b o e => by have := (HA.out b o e).2; have := HO.out.size; omega
          have has : Step bs (ats k) x y a2 := by
            rw [hy]
            exact ⟨rfl, Hrd5.out.le, Step1.num Hkd.out Hr.out Ha2.out⟩
          have hyo : Mine w6 w.heap.size y := by
            rw [hy]
            exact Mine.empty _ _ _ _
          have hyf : ∀ b o, y.p.A = some ⟨b, o, none⟩ → wr.heap.size ≤ b := by
            rw [hy]
            exact fun b o h => (by cases h)
          have hS6 := HS.out.onto Hrd2.out.blk ho6 hgs
          have c0 : w6.cell? ⟨wr.heap.size, 0, none⟩ = some (.int .i64 y.kind) := hB6.cell 0
          have c1 : w6.cell? ⟨wr.heap.size, 1, none⟩ = some (.int .i64 y.n) := hB6.cell 1
          have c2 : w6.cell? ⟨wr.heap.size, 2, none⟩ = some (.slice y.p.A y.p.ys.length y.p.c) := hB6.cell 2
          rw [← hw6]
          have hsole : ∀ z ∈ told, ∀ b o o', z.p.A = some ⟨b, o, none⟩ → y.p.A ≠ some ⟨b, o', none⟩ := fun z hz b o o' h1 h2 => by
            have e1 := (HS.out.own z hz).lt b o h1
            have e2 := hyf b o' h2
            omega
          have Hsole := Lib.hid hsole
          clear hsole hyf
          have hgi6 := hB6.lt
          have HB6 := Lib.hid hB6
          have HO6 := Lib.hid (HO.out.trans (ho6.mono fun _ _ e => .inl e))
          have Hrd6 := Lib.hid hrd6
          have Has := Lib.hid has
          have Hyo := Lib.hid hyo
          have HS6 := Lib.hid hS6
          clear hw6 hB6 ho6 hrd6 has hyo hS6 HB5 Ho5 Hrd5 hf5 hc51 hy HBa Hrda Hwa HS Hrd2 HO s0 ck cp hgi
          have s1 : w6.cell? ⟨gs, 1, none⟩ = some (.slice AT k cT) := HS6.out.blk.cell 1
          have f1 := HS6.out.blk.frozen 1
          have hgs6 := HS6.out.blk.lt
          have hb6 : w.heap.size ≤ w6.heap.size := HO6.out.size
          have hfa : ∀ o, ((w6.alloc o).drew).frozen? ⟨gs, 1, none⟩ = false := fun o => by rw [(ocell (((Only.refl (fun _ => False) w6).alloc o).drew)).2 gs 1 hgs6 (fun h => h)]; exact f1
          refine region_heldT 8 (fun w' => w'.cell? ⟨gs, 1, none⟩ = some (.slice AT k cT) ∧ w'.frozen? ⟨gs, 1, none⟩ = false ∧ w'.cell? ⟨wr.heap.size, 0, none⟩ = some (.int .i64 y.kind) ∧ w'.cell? ⟨wr.heap.size, 1, none⟩ = some (.int .i64 y.n) ∧ w'.cell? ⟨wr.heap.size, 2, none⟩ = some (.slice y.p.A y.p.ys.length y.p.c)) (by kernel_rfl) (by decide) ?_
          have hS0 : (fun w' : World => w'.cell? ⟨gs, 1, none⟩ = some (.slice AT k cT) ∧ w'.frozen? ⟨gs, 1, none⟩ = false ∧ w'.cell? ⟨wr.heap.size, 0, none⟩ = some (.int .i64 y.kind) ∧ w'.cell? ⟨wr.heap.size, 1, none⟩ = some (.int .i64 y.n) ∧ w'.cell? ⟨wr.heap.size, 2, none⟩ = some (.slice y.p.A y.p.ys.length y.p.c)) w6.drew := ⟨s1, f1, c0, c1, c2⟩
          refine HeadW.take 0 (v := .pointer (some ⟨gs, 0, none⟩)) rfl (by kernel_rfl) (by kernel_rfl) (by kernel_rfl) (by decide) (by decide) (fun _ _ _ hL => seqB_ready hL.1) (by kernel_rfl) (by kernel_rfl) (fun _ _ _ h => h) hS0 (.inl ⟨by rfl, by intro w hSw; (try dsimp only at hSw); go_simp⟩) ?_
          simp only [Act.put, List.setIfInBounds_toArray]
          refine HeadW.take 1 (v := .pointer (some ⟨gs, 0, none⟩)) rfl (by kernel_rfl) (by kernel_rfl) (by kernel_rfl) (by decide) (by decide) (fun _ _ _ hL => seqB_ready hL.1) (by kernel_rfl) (by kernel_rfl) (fun _ _ _ h => h) hS0 (.inl ⟨by rfl, by intro w hSw; (try dsimp only at hSw); go_simp⟩) ?_
          simp only [Act.put]
          refine HeadW.take 2 (v := .pointer (some ⟨gs, 0, none⟩)) rfl (by kernel_rfl) (by kernel_rfl) (by kernel_rfl) (by decide) (by decide) (fun _ _ _ hL => seqB_ready hL.1) (by kernel_rfl) (by kernel_rfl) (fun _ _ _ h => h) hS0 (.inl ⟨by rfl, by intro w hSw; (try dsimp only at hSw); go_simp⟩) ?_
          simp only [Act.put]
          refine HeadW.take 3 (v := .pointer (some ⟨gs, 1, none⟩)) rfl (by kernel_rfl) (by kernel_rfl) (by kernel_rfl) (by decide) (by decide) (fun _ _ _ hL => seqB_ready hL.1) (by kernel_rfl) (by kernel_rfl) (fun _ _ _ h => h) hS0 (.inl ⟨by rfl, by intro w hSw; (try dsimp only at hSw); go_simp⟩) ?_
          simp only [Act.put]
          refine HeadW.take 4 (v := .slice AT k cT) rfl (by kernel_rfl) (by kernel_rfl) (by kernel_rfl) (by decide) (by decide) (fun _ _ _ hL => seqB_ready hL.1) (by kernel_rfl) (by kernel_rfl) (fun _ _ _ h => h) hS0 (.inl ⟨by rfl, by intro w hSw; (try dsimp only at hSw); go_simp⟩) ?_
          simp only [Act.put]
          refine HeadW.take 5 (v := .agg #[.int .i64 y.kind, .int .i64 y.n, .slice y.p.A y.p.ys.length y.p.c]) rfl (by kernel_rfl) (by kernel_rfl) (by kernel_rfl) (by decide) (by decide) (fun _ _ _ hL => seqB_ready hL.1) (by kernel_rfl) (by kernel_rfl) (fun _ _ _ h => h) hS0 (.inl ⟨by rfl, by intro w hSw; (try dsimp only at hSw); go_simp⟩) ?_
          simp only [Act.put]
          refine HeadW.one 6 rfl (by decide) (by kernel_rfl) fun K hK => ?_
          go_simp
          obtain ⟨wb, hwb⟩ : ∃ wb, wb = (w6.alloc (.cells #[.int .i64 y.kind, .int .i64 y.n, .slice y.p.A y.p.ys.length y.p.c] 30)).drew := ⟨_, rfl⟩
          have hOb : Below w6.heap.size w6 wb := by rw [hwb]; exact below_drewN ((Below.refl _ _).alloc (Nat.le_refl _) _) 1
          have hRb : RV wb (some ⟨w6.heap.size, 0, none⟩) (itemCells y) := by rw [hwb]; exact (RV.of_blk (Blk.new w6 _ #[_, _, _])).drew
          have hfb : wb.frozen? ⟨gs, 1, none⟩ = false := by rw [hwb]; exact hfa _
          have hzb : wb.heap.size = w6.heap.size + 1 := by rw [hwb]; simp
          have hSb := HS6.out.below hOb
          have hrdb := Hrd6.out.below hOb
          rw [← hwb]
          refine hK.out _ _ ⟨hSb.blk.cell 1, hfb, by rw [(bcell hOb).1 _ _ hgi6]; exact c0, by rw [(bcell hOb).1 _ _ hgi6]; exact c1, by rw [(bcell hOb).1 _ _ hgi6]; exact c2⟩ (fun hHeld => ?_)
          clear hK K hfa hS0 hwb s1 f1
          refine HeadW.one 7 rfl (by decide) (by kernel_rfl) fun K hK => ?_
          refine step_app (by rfl) (.tmp 74) (.tmp 76) eItem (by rfl) (base := w.heap.size) (n := k) (c := cT) (A := AT) (vs := told.flatMap itemCells) (by rfl) hSb.rowT (A' := some ⟨w6.heap.size, 0, none⟩) (m := 1) (c' := 1) (us := itemCells y) (by rfl) hRb rfl (items_one [y]) (by unfold maxLen; omega) (by omega) (by omega) (by simp) ?_
          intro A2 c2' w7 hown7 hgrow7 hat7
          have ho7 : Only (fun b => AT.map (·.block) = some b) wb w7 := Only.of_grown hgrow7 fun b e => e
          have hblk7 := hSb.blk.only ho7 (hSb.rowT.ne_map hSb.blk (by decide))
          have hleft7 := hSb.left.only ho7 (hSb.rowT.ne_map2 hSb.left (by decide))
          have hown7b : ∀ z ∈ told, Mine w7 w.heap.size z := fun z hz => (hSb.own z hz).only ho7 (hSb.rowT.ne_mine (hSb.own z hz) (by decide))
          have hyo7 : Mine w7 w.heap.size y := (Hyo.out.below hOb).only ho7 (hSb.rowT.ne_mine (Hyo.out.below hOb) (by decide))
          have hrd7 := hrdb.only ho7 (hSb.rowT.ne_map hrdb.blk (by decide)) fun b o e h => by have := (HA.out b o e).2; have := (HATlt.out b h).1; omega
          have hOw7 : Only (fun b => b = g ∨ b = gs) w w7 := (HO6.out.trans (Only.of_fresh hOb)).more ho7 fun b hb h => by have := (HATlt.out b h).1; omega
          have hgi7 : w7.cell? ⟨wr.heap.size, 0, none⟩ = some (.int .i64 y.kind) ∧ w7.cell? ⟨wr.heap.size, 1, none⟩ = some (.int .i64 y.n) ∧ w7.cell? ⟨wr.heap.size, 2, none⟩ = some (.slice y.p.A y.p.ys.length y.p.c) := by
            have hni : ¬ (AT.map (·.block) = some wr.heap.size) := fun h => by have := (HATlt.out _ h).2; omega
            refine ⟨?_, ?_, ?_⟩ <;> rw [(ocell ho7).1 _ _ (by omega) hni, (bcell hOb).1 _ _ hgi6] <;> assumption
          refine hK.out _ _ ⟨hblk7.cell 1, hblk7.frozen 1, hgi7⟩ (fun hHeld => ?_)
          refine fun _ => ⟨by kernel_rfl, ?_⟩
          have f71 := hblk7.frozen 1
          have c71 : w7.cell? ⟨gs, 1, none⟩ = some (.slice AT k cT) := hblk7.cell 1
          have hgs7 := hblk7.lt
          have Hblk7 := Lib.hid hblk7
          have Hown7 := Lib.hid hown7
          have Hleft7 := Lib.hid hleft7
          have Hown7b := Lib.hid hown7b
          have Hyo7 := Lib.hid hyo7
          have Hrd7 := Lib.hid hrd7
          have HOw7 := Lib.hid hOw7
          clear hK K hHeld hblk7 hown7 hleft7 hown7b hyo7 hrd7 hOw7 hgi7 hgrow7 hat7 ho7 hSb hrdb hOb hRb hfb hzb c0 c1 c2 Hba
          go_wp2_with fail
          obtain ⟨w8, hw8⟩ : ∃ w8, w8 = w7.setCell ⟨gs, 1, none⟩ (.slice A2 (k + 1) c2') := ⟨_, rfl⟩
          rw [← hw8]
          have ho8 : Only (fun b => b = gs) w7 w8 := by rw [hw8]; exact (Only.refl (fun b => b = gs) w7).setCell (p := ⟨gs, 1, none⟩) (.inl rfl) _
          have hblk8 : Blk w8 gs 83 #[.slice (some ⟨pb, poff, none⟩) all.length cW, .slice A2 (k + 1) c2', .slice AL k cL, .pointer (some ⟨g, 0, none⟩)] := by
            rw [hw8]; exact Blk.setL (cs := [.slice (some ⟨pb, poff, none⟩) all.length cW, .slice AT k cT, .slice AL k cL, .pointer (some ⟨g, 0, none⟩)]) Hblk7.out 1 _
          clear hw8
          have hown8 := Hown7.out.only ho8 fun b o e h => Hown7.out.ne_blk Hblk7.out (by decide) b o e h
          have hleft8 := Hleft7.out.only ho8 fun b o e h => Hleft7.out.ne_blk Hblk7.out (by decide) b o e h
          have hown8b : ∀ z ∈ told, Mine w8 w.heap.size z := fun z hz => (Hown7b.out z hz).only ho8 fun b o e h => (Hown7b.out z hz).ne_blk Hblk7.out (by decide) b o e h
          have hyo8 := Hyo7.out.only ho8 fun b o e h => Hyo7.out.ne_blk Hblk7.out (by decide) b o e h
          have hrd8 := Hrd7.out.only ho8 (fun h => hgs h.symm) fun b o e h => (HA.out b o e).1 h
          have hOw8 : Only (fun b => b = g ∨ b = gs) w w8 := HOw7.out.trans (ho8.mono fun _ _ e => .inr e)
          have s2 : w8.cell? ⟨gs, 2, none⟩ = some (.slice AL k cL) := hblk8.cell 2
          have f2 := hblk8.frozen 2
          have hgs8 := hblk8.lt
          have hb8 : w.heap.size ≤ w8.heap.size := hOw8.size
          have hS0 : (fun w' : World => w'.cell? ⟨gs, 2, none⟩ = some (.slice AL k cL) ∧ w'.frozen? ⟨gs, 2, none⟩ = false) w8.drew := ⟨s2, f2⟩
          refine region_heldT 9 (fun w' => w'.cell? ⟨gs, 2, none⟩ = some (.slice AL k cL) ∧ w'.frozen? ⟨gs, 2, none⟩ = false) (by kernel_rfl) (by decide) ?_
          refine HeadW.take 0 (v := .pointer (some ⟨gs, 0, none⟩)) rfl (by kernel_rfl) (by kernel_rfl) (by kernel_rfl) (by decide) (by decide) (fun _ _ _ hL => seqB_ready hL.1) (by kernel_rfl) (by kernel_rfl) (fun _ _ _ h => h) hS0 (.inl ⟨by rfl, by intro w hSw; (try dsimp only at hSw); go_simp⟩) ?_
          simp only [Act.put, List.setIfInBounds_toArray]
          refine HeadW.take 1 (v := .pointer (some ⟨gs, 0, none⟩)) rfl (by kernel_rfl) (by kernel_rfl) (by kernel_rfl) (by decide) (by decide) (fun _ _ _ hL => seqB_ready hL.1) (by kernel_rfl) (by kernel_rfl) (fun _ _ _ h => h) hS0 (.inl ⟨by rfl, by intro w hSw; (try dsimp only at hSw); go_simp⟩) ?_
          simp only [Act.put]
          refine HeadW.take 2 (v := .pointer (some ⟨gs, 0, none⟩)) rfl (by kernel_rfl) (by kernel_rfl) (by kernel_rfl) (by decide) (by decide) (fun _ _ _ hL => seqB_ready hL.1) (by kernel_rfl) (by kernel_rfl) (fun _ _ _ h => h) hS0 (.inl ⟨by rfl, by intro w hSw; (try dsimp only at hSw); go_simp⟩) ?_
          simp only [Act.put]
          refine HeadW.take 3 (v := .pointer (some ⟨gs, 2, none⟩)) rfl (by kernel_rfl) (by kernel_rfl) (by kernel_rfl) (by decide) (by decide) (fun _ _ _ hL => seqB_ready hL.1) (by kernel_rfl) (by kernel_rfl) (fun _ _ _ h => h) hS0 (.inl ⟨by rfl, by intro w hSw; (try dsimp only at hSw); go_simp⟩) ?_
          simp only [Act.put]
          refine HeadW.take 4 (v := .slice AL k cL) rfl (by kernel_rfl) (by kernel_rfl) (by kernel_rfl) (by decide) (by decide) (fun _ _ _ hL => seqB_ready hL.1) (by kernel_rfl) (by kernel_rfl) (fun _ _ _ h => h) hS0 (.inl ⟨by rfl, by intro w hSw; (try dsimp only at hSw); go_simp⟩) ?_
          simp only [Act.put]
          refine HeadW.take 5 (v := .pointer (some ⟨g, 0, none⟩)) rfl (by kernel_rfl) (by kernel_rfl) (by kernel_rfl) (by decide) (by decide) (fun _ _ _ hL => seqB_ready hL.1) (by kernel_rfl) (by kernel_rfl) (fun _ _ _ h => h) hS0 (.inl ⟨by rfl, by intro w hSw; (try dsimp only at hSw); go_simp⟩) ?_
          simp only [Act.put]
          refine HeadW.one 6 rfl (by decide) (by kernel_rfl) fun K hK => ?_
          go_simp
          refine (rLeft_any g c _ A bs w8.drew (hrd8.drewN 1) hl).mono ?_
          rintro e _ ⟨rfl, m, rfl⟩
          have hzl : a2 ≤ bs.length := hrd8.le
          obtain ⟨lv, hlv⟩ : ∃ lv : Nat, lv = bs.length - a2 := ⟨_, rfl⟩
          rw [← hlv]
          obtain ⟨w9, hw9⟩ : ∃ w9, w9 = w8.drew.drewN m := ⟨_, rfl⟩
          have hO9 : Below w8.heap.size w8 w9 := by rw [hw9]; exact below_drewN (below_drewN (Below.refl _ _) 1) m
          have hz9 : w9.heap.size = w8.heap.size := by rw [hw9]; rfl
          have hS9 : w9.cell? ⟨gs, 2, none⟩ = some (.slice AL k cL) ∧ w9.frozen? ⟨gs, 2, none⟩ = false := by rw [hw9]; exact ⟨s2, f2⟩
          rw [← hw9]
          have Hlv := Lib.hid hlv
          clear hw9 hlv
          refine hK.out _ _ hS9 (fun hHeld => ?_)
          clear hK K hHeld hS0
          refine HeadW.one 7 rfl (by decide) (by kernel_rfl) fun K hK => ?_
          go_simp
          obtain ⟨wc, hwc⟩ : ∃ wc, wc = w9.alloc (.cells #[.int .i64 (lv : Int)] 3) := ⟨_, rfl⟩
          have hOc : Below w9.heap.size w9 wc := by rw [hwc]; exact (Below.refl _ _).alloc (Nat.le_refl _) _
          have hRc : RV wc (some ⟨w9.heap.size, 0, none⟩) [.int .i64 (lv : Int)] := by rw [hwc]; exact RV.of_blk (Blk.new w9 _ #[_])
          have hzc : wc.heap.size = w9.heap.size + 1 := by rw [hwc]; simp
          rw [hz9] at hRc
          have hOc8 : Below w8.heap.size w8 wc := hO9.trans (hOc.mono (by omega))
          have hblkc := hblk8.below hOc8 hgs8
          have hleftc := hleft8.below hOc8 (Nat.le_refl _)
          have hownc := hown8.below hOc8 (Nat.le_refl _)
          have hrdc := hrd8.below hOc8
          rw [← hwc]
          clear hwc
          refine hK.out _ _ ⟨hblkc.cell 2, hblkc.frozen 2⟩ (fun hHeld => ?_)
          clear hK K hHeld
          refine HeadW.one 8 rfl (by decide) (by kernel_rfl) fun K hK => ?_
          refine step_app (by rfl) (.tmp 84) (.tmp 87) eInt (by rfl) (base := w.heap.size) (n := k) (c := cL) (A := AL) (vs := leftG bs ats k) (by rfl) hleftc (A' := some ⟨w8.heap.size, 0, none⟩) (m := 1) (c' := 1) (us := [.int .i64 (lv : Int)]) (by rfl) hRc rfl (fun v hv => by rcases List.mem_singleton.1 hv with rfl; rfl) (by unfold maxLen; omega) (by omega) (by omega) (by simp) ?_
          intro AL2 cL2 w10 hown10 hgrow10 hat10
          have ho10 : Only (fun b => AL.map (·.block) = some b) wc w10 := Only.of_grown hgrow10 fun b e => e
          have hALlt : ∀ b, AL.map (·.block) = some b → w.heap.size ≤ b := fun b h => (Own.row hleft8 b h).1
          have hblk10 := hblkc.only ho10 (hleftc.ne_map hblkc (by decide))
          have hrow10 := hownc.only ho10 (hleftc.ne_map2 hownc (by decide))
          have hown10b : ∀ z ∈ told, Mine w10 w.heap.size z := fun z hz => ((hown8b z hz).below hOc8).only ho10 (hleftc.ne_mine ((hown8b z hz).below hOc8) (by decide))
          have hyo10 : Mine w10 w.heap.size y := (hyo8.below hOc8).only ho10 (hleftc.ne_mine (hyo8.below hOc8) (by decide))
          have hrd10 := hrdc.only ho10 (hleftc.ne_map hrdc.blk (by decide)) fun b o e h => by have := (HA.out b o e).2; have := hALlt b h; omega
          have hOw10 : Only (fun b => b = g ∨ b = gs) w w10 := (hOw8.trans (Only.of_fresh hOc8)).more ho10 fun b hb h => by have := hALlt b h; omega
          refine hK.out _ _ ⟨hblk10.cell 2, hblk10.frozen 2⟩ (fun hHeld => ?_)
          refine fun _ => ⟨by kernel_rfl, ?_⟩
          have f102 := hblk10.frozen 2
          have c102 : w10.cell? ⟨gs, 2, none⟩ = some (.slice AL k cL) := hblk10.cell 2
          have hgs10 := hblk10.lt
          have Hblk10 := Lib.hid hblk10
          have Hown10 := Lib.hid hown10
          have Hrow10 := Lib.hid hrow10
          have Hown10b := Lib.hid hown10b
          have Hyo10 := Lib.hid hyo10
          have Hrd10 := Lib.hid hrd10
          have HOw10 := Lib.hid hOw10
          clear hK K hHeld hblk10 hown10 hrow10 hown10b hyo10 hrd10 hOw10 hgrow10 hat10 ho10 hblkc hleftc hownc hrdc hOc hOc8 hRc hO9 hS9 hblk8 hown8 hleft8 hown8b hyo8 hrd8 hOw8 ho8 s2 f2
          go_wp2_with fail
          refine ⟨⟨k + 1, fun j => if j = k + 1 then a2 else ats j, A2, c2', AL2, cL2, told ++ [y], by omega, by go_num, ⟨?_, ?_, ?_, ?_, ?_, ?_, ?_, ?_⟩, ?_, ?_⟩, by simp [intOf]; omega⟩
          · exact Blk.setL (cs := [.slice (some ⟨pb, poff, none⟩) all.length cW, .slice A2 (k + 1) c2', .slice AL k cL, .pointer (some ⟨g, 0, none⟩)]) Hblk10.out 2 _
          · have h := Hrow10.out.only (S := fun b => b = gs) (w' := w10.setCell ⟨gs, 2, none⟩ (.slice AL2 (k + 1) cL2)) ((Only.refl (fun b => b = gs) w10).setCell (p := ⟨gs, 2, none⟩) (.inl rfl) _) fun b o e h => Hrow10.out.ne_blk Hblk10.out (by decide) b o e h
            rw [List.flatMap_append]
            simpa using h
          · have h := Hown10.out.only (S := fun b => b = gs) (w' := w10.setCell ⟨gs, 2, none⟩ (.slice AL2 (k + 1) cL2)) ((Only.refl (fun b => b = gs) w10).setCell (p := ⟨gs, 2, none⟩) (.inl rfl) _) fun b o e h => Hown10.out.ne_blk Hblk10.out (by decide) b o e h
            have e := leftG_next bs ats k a2
            rw [← Hlv.out] at e
            rw [e]
            exact h
          · rw [List.length_append, HS6.out.len]; rfl
          · exact (if_neg (by omega)).trans HS6.out.zero
          · intro j hj h2
            rcases Nat.lt_or_ge j k with h | h
            · obtain ⟨z, hz, hz2⟩ := HS6.out.step j h h2
              refine ⟨z, by rw [List.getElem?_append_left (by rw [HS6.out.len]; exact h)]; exact hz, ?_⟩
              rw [if_neg (by omega), if_neg (by omega)]
              exact hz2
            · obtain rfl : j = k := by omega
              refine ⟨y, by rw [List.getElem?_append_right (by rw [HS6.out.len]; exact h), HS6.out.len, Nat.sub_self]; rfl, ?_⟩
              rw [if_neg (by omega), if_pos rfl, ← Hxe.out]
              exact Has.out
          · intro z hz
            have hz2 : Mine w10 w.heap.size z := by
              rcases List.mem_append.1 hz with h | h
              · exact Hown10b.out z h
              · rcases List.mem_singleton.1 h with rfl
                exact Hyo10.out
            exact hz2.only ((Only.refl (fun b => b = gs) w10).setCell (p := ⟨gs, 2, none⟩) (.inl rfl) _) fun b o e h => hz2.ne_blk Hblk10.out (by decide) b o e h
          · intro i j yi yj hij hi
            exact sole_snoc HS6.out.sole Hsole.out hij hi
          · show Rd _ g A c bs (if k + 1 = k + 1 then a2 else ats (k + 1)) false 0
            rw [if_pos rfl]
            exact Hrd10.out.only ((Only.refl (fun b => b = gs) w10).setCell (p := ⟨gs, 2, none⟩) (.inl rfl) _) (fun h => hgs h.symm) fun b o e h => (HA.out b o e).1 h
          · exact HOw10.out.setCell (p := ⟨gs, 2, none⟩) (.inl (.inr rfl)) _
      by_cases h2 : x.kind = 2
      · clear h1
        have q1 : (x.kind == 1) = false := by rw [beq_eq_false_iff_ne]; omega
        have g2 : (x.kind == 2) = true := by rw [beq_iff_eq]; exact h2
        have Hkd := Lib.hid h2
        clear h2
        have hc := rInt_any g c (ats k) A bs wa Hrda.out hl
        cases hr : numberL bs (ats k) with
        | error f =>
          rw [hr] at hc
          have hfz : f ≠ 0 := number_err hr
          have Herr := Lib.hid (show Err1 bs (ats k) x f from Err1.int Hkd.out hr)
          clear hr
          dsimp only at hc
          go_wp2_with fail
          rw [← Hwa.out]
          refine hc.mono ?_
          rintro e w5 ⟨rfl, ⟨at5, hrd5⟩, ho5⟩
          have hO5 : Only (fun b => b = g ∨ b = gs) w w5 := HO.out.trans (((Only.of_fresh Hba.out).trans ho5).mono fun _ _ e => .inl e)
          have HO5 := Lib.hid hO5
          have Hrd5 := Lib.hid hrd5
          clear hO5 hrd5 ho5 hc
          go_wp2_with fail
          exact ⟨rfl, HO5.out, .inr ⟨f, at5, hfz, rfl, Hrd5.out, k, ats, told, hlt, HS.out.zero, HS.out.step, by rw [← Hxe.out]; exact Herr.out⟩⟩
        | ok p =>
          rw [hr] at hc
          obtain ⟨u, n5⟩ := p
          have Hr := Lib.hid hr
          clear hr
          dsimp only at hc
          obtain ⟨a2, ha2⟩ : ∃ a2, a2 = ats k + n5 := ⟨_, rfl⟩
          rw [← ha2] at hc
          have Ha2 := Lib.hid ha2
          clear ha2
          go_wp2_with fail
          rw [← Hwa.out]
          refine hc.mono ?_
          rintro e w5 ⟨rfl, hrd5, ho5⟩
          have hB5 := HBa.out.only ho5 (by omega)
          have hf5 := hB5.frozen 1
          have hc51 : w5.cell? ⟨wr.heap.size, 1, none⟩ = some (.int .i64 0) := hB5.cell 1
          have hgi := hB5.lt
          have Hrd5 := Lib.hid hrd5
          have Ho5 := Lib.hid ho5
          have HB5 := Lib.hid hB5
          clear hc hrd5 ho5 hB5
          go_wp2_with fail
          obtain ⟨y, hy⟩ : ∃ y : Item, y = ⟨x.kind, unfoldN u, ⟨none, 0, []⟩⟩ := ⟨_, rfl⟩
          obtain ⟨w6, hw6⟩ : ∃ w6, w6 = w5.setCell ⟨wr.heap.size, 1, none⟩ (.int .i64 (unfoldN u)) := ⟨_, rfl⟩
          have hB6 : Blk w6 wr.heap.size 30 (itemCells y).toArray := by rw [hw6, hy]; exact Blk.setL (cs := [.int .i64 x.kind, .int .i64 0, .slice none 0 0]) HB5.out 1 _
          have ho6 : Only (fun b => b = g) wr w6 := by rw [hw6]; exact (((Only.of_fresh Hba.out).trans Ho5.out).setCell (p := ⟨wr.heap.size, 1, none⟩) (.inr (Nat.le_refl _)) _)
          have hrd6 : Rd w6 g A c bs a2 false 0 := by
            rw [hw6]
            exact Hrd5.out.only ((Only.refl (fun b => b = wr.heap.size) w5).setCell (p := ⟨wr.heap.size, 1, none⟩) (.inl rfl) _) (by omega) fun b o e => by have := (HA.out b o e).2; have := HO.out.size; omega
          have has : Step bs (ats k) x y a2 := by
            rw [hy]
            exact ⟨rfl, Hrd5.out.le, Step1.int Hkd.out Hr.out Ha2.out⟩
          have hyo : Mine w6 w.heap.size y := by
            rw [hy]
            exact Mine.empty _ _ _ _
          have hyf : ∀ b o, y.p.A = some ⟨b, o, none⟩ → wr.heap.size ≤ b := by
            rw [hy]
            exact fun b o h => (by cases h)
          have hS6 := HS.out.onto Hrd2.out.blk ho6 hgs
          have c0 : w6.cell? ⟨wr.heap.size, 0, none⟩ = some (.int .i64 y.kind) := hB6.cell 0
          have c1 : w6.cell? ⟨wr.heap.size, 1, none⟩ = some (.int .i64 y.n) := hB6.cell 1
          have c2 : w6.cell? ⟨wr.heap.size, 2, none⟩ = some (.slice y.p.A y.p.ys.length y.p.c) := hB6.cell 2
          rw [← hw6]
          have hsole : ∀ z ∈ told, ∀ b o o', z.p.A = some ⟨b, o, none⟩ → y.p.A ≠ some ⟨b, o', none⟩ := fun z hz b o o' h1 h2 => by
            have e1 := (HS.out.own z hz).lt b o h1
            have e2 := hyf b o' h2
            omega
          have Hsole := Lib.hid hsole
          clear hsole hyf
          have hgi6 := hB6.lt
          have HB6 := Lib.hid hB6
          have HO6 := Lib.hid (HO.out.trans (ho6.mono fun _ _ e => .inl e))
          have Hrd6 := Lib.hid hrd6
          have Has := Lib.hid has
          have Hyo := Lib.hid hyo
          have HS6 := Lib.hid hS6
          clear hw6 hB6 ho6 hrd6 has hyo hS6 HB5 Ho5 Hrd5 hf5 hc51 hy HBa Hrda Hwa HS Hrd2 HO s0 ck cp hgi
          have s1 : w6.cell? ⟨gs, 1, none⟩ = some (.slice AT k cT) := HS6.out.blk.cell 1
          have f1 := HS6.out.blk.frozen 1
          have hgs6 := HS6.out.blk.lt
          have hb6 : w.heap.size ≤ w6.heap.size := HO6.out.size
          have hfa : ∀ o, ((w6.alloc o).drew).frozen? ⟨gs, 1, none⟩ = false := fun o => by rw [(ocell (((Only.refl (fun _ => False) w6).alloc o).drew)).2 gs 1 hgs6 (fun h => h)]; exact f1
          refine region_heldT 8 (fun w' => w'.cell? ⟨gs, 1, none⟩ = some (.slice AT k cT) ∧ w'.frozen? ⟨gs, 1, none⟩ = false ∧ w'.cell? ⟨wr.heap.size, 0, none⟩ = some (.int .i64 y.kind) ∧ w'.cell? ⟨wr.heap.size, 1, none⟩ = some (.int .i64 y.n) ∧ w'.cell? ⟨wr.heap.size, 2, none⟩ = some (.slice y.p.A y.p.ys.length y.p.c)) (by kernel_rfl) (by decide) ?_
          have hS0 : (fun w' : World => w'.cell? ⟨gs, 1, none⟩ = some (.slice AT k cT) ∧ w'.frozen? ⟨gs, 1, none⟩ = false ∧ w'.cell? ⟨wr.heap.size, 0, none⟩ = some (.int .i64 y.kind) ∧ w'.cell? ⟨wr.heap.size, 1, none⟩ = some (.int .i64 y.n) ∧ w'.cell? ⟨wr.heap.size, 2, none⟩ = some (.slice y.p.A y.p.ys.length y.p.c)) w6.drew := ⟨s1, f1, c0, c1, c2⟩
          refine HeadW.take 0 (v := .pointer (some ⟨gs, 0, none⟩)) rfl (by kernel_rfl) (by kernel_rfl) (by kernel_rfl) (by decide) (by decide) (fun _ _ _ hL => seqB_ready hL.1) (by kernel_rfl) (by kernel_rfl) (fun _ _ _ h => h) hS0 (.inl ⟨by rfl, by intro w hSw; (try dsimp only at hSw); go_simp⟩) ?_
          simp only [Act.put, List.setIfInBounds_toArray]
          refine HeadW.take 1 (v := .pointer (some ⟨gs, 0, none⟩)) rfl (by kernel_rfl) (by kernel_rfl) (by kernel_rfl) (by decide) (by decide) (fun _ _ _ hL => seqB_ready hL.1) (by kernel_rfl) (by kernel_rfl) (fun _ _ _ h => h) hS0 (.inl ⟨by rfl, by intro w hSw; (try dsimp only at hSw); go_simp⟩) ?_
          simp only [Act.put]
          refine HeadW.take 2 (v := .pointer (some ⟨gs, 0, none⟩)) rfl (by kernel_rfl) (by kernel_rfl) (by kernel_rfl) (by decide) (by decide) (fun _ _ _ hL => seqB_ready hL.1) (by kernel_rfl) (by kernel_rfl) (fun _ _ _ h => h) hS0 (.inl ⟨by rfl, by intro w hSw; (try dsimp only at hSw); go_simp⟩) ?_
          simp only [Act.put]
          refine HeadW.take 3 (v := .pointer (some ⟨gs, 1, none⟩)) rfl (by kernel_rfl) (by kernel_rfl) (by kernel_rfl) (by decide) (by decide) (fun _ _ _ hL => seqB_ready hL.1) (by kernel_rfl) (by kernel_rfl) (fun _ _ _ h => h) hS0 (.inl ⟨by rfl, by intro w hSw; (try dsimp only at hSw); go_simp⟩) ?_
          simp only [Act.put]
          refine HeadW.take 4 (v := .slice AT k cT) rfl (by kernel_rfl) (by kernel_rfl) (by kernel_rfl) (by decide) (by decide) (fun _ _ _ hL => seqB_ready hL.1) (by kernel_rfl) (by kernel_rfl) (fun _ _ _ h => h) hS0 (.inl ⟨by rfl, by intro w hSw; (try dsimp only at hSw); go_simp⟩) ?_
          simp only [Act.put]
          refine HeadW.take 5 (v := .agg #[.int .i64 y.kind, .int .i64 y.n, .slice y.p.A y.p.ys.length y.p.c]) rfl (by kernel_rfl) (by kernel_rfl) (by kernel_rfl) (by decide) (by decide) (fun _ _ _ hL => seqB_ready hL.1) (by kernel_rfl) (by kernel_rfl) (fun _ _ _ h => h) hS0 (.inl ⟨by rfl, by intro w hSw; (try dsimp only at hSw); go_simp⟩) ?_
          simp only [Act.put]
          refine HeadW.one 6 rfl (by decide) (by kernel_rfl) fun K hK => ?_
          go_simp
          obtain ⟨wb, hwb⟩ : ∃ wb, wb = (w6.alloc (.cells #[.int .i64 y.kind, .int .i64 y.n, .slice y.p.A y.p.ys.length y.p.c] 30)).drew := ⟨_, rfl⟩
          have hOb : Below w6.heap.size w6 wb := by rw [hwb]; exact below_drewN ((Below.refl _ _).alloc (Nat.le_refl _) _) 1
          have hRb : RV wb (some ⟨w6.heap.size, 0, none⟩) (itemCells y) := by rw [hwb]; exact (RV.of_blk (Blk.new w6 _ #[_, _, _])).drew
          have hfb : wb.frozen? ⟨gs, 1, none⟩ = false := by rw [hwb]; exact hfa _
          have hzb : wb.heap.size = w6.heap.size + 1 := by rw [hwb]; simp
          have hSb := HS6.out.below hOb
          have hrdb := Hrd6.out.below hOb
          rw [← hwb]
          refine hK.out _ _ ⟨hSb.blk.cell 1, hfb, by rw [(bcell hOb).1 _ _ hgi6]; exact c0, by rw [(bcell hOb).1 _ _ hgi6]; exact c1, by rw [(bcell hOb).1 _ _ hgi6]; exact c2⟩ (fun hHeld => ?_)
          clear hK K hfa hS0 hwb s1 f1
          refine HeadW.one 7 rfl (by decide) (by kernel_rfl) fun K hK => ?_
          refine step_app (by rfl) (.tmp 74) (.tmp 76) eItem (by rfl) (base := w.heap.size) (n := k) (c := cT) (A := AT) (vs := told.flatMap itemCells) (by rfl) hSb.rowT (A' := some ⟨w6.heap.size, 0, none⟩) (m := 1) (c' := 1) (us := itemCells y) (by rfl) hRb rfl (items_one [y]) (by unfold maxLen; omega) (by omega) (by omega) (by simp) ?_
          intro A2 c2' w7 hown7 hgrow7 hat7
          have ho7 : Only (fun b => AT.map (·.block) = some b) wb w7 := Only.of_grown hgrow7 fun b e => e
          have hblk7 := hSb.blk.only ho7 (hSb.rowT.ne_map hSb.blk (by decide))
          have hleft7 := hSb.left.only ho7 (hSb.rowT.ne_map2 hSb.left (by decide))
          have hown7b : ∀ z ∈ told, Mine w7 w.heap.size z := fun z hz => (hSb.own z hz).only ho7 (hSb.rowT.ne_mine (hSb.own z hz) (by decide))
          have hyo7 : Mine w7 w.heap.size y := (Hyo.out.below hOb).only ho7 (hSb.rowT.ne_mine (Hyo.out.below hOb) (by decide))
          have hrd7 := hrdb.only ho7 (hSb.rowT.ne_map hrdb.blk (by decide)) fun b o e h => by have := (HA.out b o e).2; have := (HATlt.out b h).1; omega
          have hOw7 : Only (fun b => b = g ∨ b = gs) w w7 := (HO6.out.trans (Only.of_fresh hOb)).more ho7 fun b hb h => by have := (HATlt.out b h).1; omega
          have hgi7 : w7.cell? ⟨wr.heap.size, 0, none⟩ = some (.int .i64 y.kind) ∧ w7.cell? ⟨wr.heap.size, 1, none⟩ = some (.int .i64 y.n) ∧ w7.cell? ⟨wr.heap.size, 2, none⟩ = some (.slice y.p.A y.p.ys.length y.p.c) := by
            have hni : ¬ (AT.map (·.block) = some wr.heap.size) := fun h => by have := (HATlt.out _ h).2; omega
            refine ⟨?_, ?_, ?_⟩ <;> rw [(ocell ho7).1 _ _ (by omega) hni, (bcell hOb).1 _ _ hgi6] <;> assumption
          refine hK.out _ _ ⟨hblk7.cell 1, hblk7.frozen 1, hgi7⟩ (fun hHeld => ?_)
          refine fun _ => ⟨by kernel_rfl, ?_⟩
          have f71 := hblk7.frozen 1
          have c71 : w7.cell? ⟨gs, 1, none⟩ = some (.slice AT k cT) := hblk7.cell 1
          have hgs7 := hblk7.lt
          have Hblk7 := Lib.hid hblk7
          have Hown7 := Lib.hid hown7
          have Hleft7 := Lib.hid hleft7
          have Hown7b := Lib.hid hown7b
          have Hyo7 := Lib.hid hyo7
          have Hrd7 := Lib.hid hrd7
          have HOw7 := Lib.hid hOw7
          clear hK K hHeld hblk7 hown7 hleft7 hown7b hyo7 hrd7 hOw7 hgi7 hgrow7 hat7 ho7 hSb hrdb hOb hRb hfb hzb c0 c1 c2 Hba
          go_wp2_with fail
          obtain ⟨w8, hw8⟩ : ∃ w8, w8 = w7.setCell ⟨gs, 1, none⟩ (.slice A2 (k + 1) c2') := ⟨_, rfl⟩
          rw [← hw8]
          have ho8 : Only (fun b => b = gs) w7 w8 := by rw [hw8]; exact (Only.refl (fun b => b = gs) w7).setCell (p := ⟨gs, 1, none⟩) (.inl rfl) _
          have hblk8 : Blk w8 gs 83 #[.slice (some ⟨pb, poff, none⟩) all.length cW, .slice A2 (k + 1) c2', .slice AL k cL, .pointer (some ⟨g, 0, none⟩)] := by
            rw [hw8]; exact Blk.setL (cs := [.slice (some ⟨pb, poff, none⟩) all.length cW, .slice AT k cT, .slice AL k cL, .pointer (some ⟨g, 0, none⟩)]) Hblk7.out 1 _
          clear hw8
          have hown8 := Hown7.out.only ho8 fun b o e h => Hown7.out.ne_blk Hblk7.out (by decide) b o e h
          have hleft8 := Hleft7.out.only ho8 fun b o e h => Hleft7.out.ne_blk Hblk7.out (by decide) b o e h
          have hown8b : ∀ z ∈ told, Mine w8 w.heap.size z := fun z hz => (Hown7b.out z hz).only ho8 fun b o e h => (Hown7b.out z hz).ne_blk Hblk7.out (by decide) b o e h
          have hyo8 := Hyo7.out.only ho8 fun b o e h => Hyo7.out.ne_blk Hblk7.out (by decide) b o e h
          have hrd8 := Hrd7.out.only ho8 (fun h => hgs h.symm) fun b o e h => (HA.out b o e).1 h
          have hOw8 : Only (fun b => b = g ∨ b = gs) w w8 := HOw7.out.trans (ho8.mono fun _ _ e => .inr e)
          have s2 : w8.cell? ⟨gs, 2, none⟩ = some (.slice AL k cL) := hblk8.cell 2
          have f2 := hblk8.frozen 2
          have hgs8 := hblk8.lt
          have hb8 : w.heap.size ≤ w8.heap.size := hOw8.size
          have hS0 : (fun w' : World => w'.cell? ⟨gs, 2, none⟩ = some (.slice AL k cL) ∧ w'.frozen? ⟨gs, 2, none⟩ = false) w8.drew := ⟨s2, f2⟩
          refine region_heldT 9 (fun w' => w'.cell? ⟨gs, 2, none⟩ = some (.slice AL k cL) ∧ w'.frozen? ⟨gs, 2, none⟩ = false) (by kernel_rfl) (by decide) ?_
          refine HeadW.take 0 (v := .pointer (some ⟨gs, 0, none⟩)) rfl (by kernel_rfl) (by kernel_rfl) (by kernel_rfl) (by decide) (by decide) (fun _ _ _ hL => seqB_ready hL.1) (by kernel_rfl) (by kernel_rfl) (fun _ _ _ h => h) hS0 (.inl ⟨by rfl, by intro w hSw; (try dsimp only at hSw); go_simp⟩) ?_
          simp only [Act.put, List.setIfInBounds_toArray]
          refine HeadW.take 1 (v := .pointer (some ⟨gs, 0, none⟩)) rfl (by kernel_rfl) (by kernel_rfl) (by kernel_rfl) (by decide) (by decide) (fun _ _ _ hL => seqB_ready hL.1) (by kernel_rfl) (by kernel_rfl) (fun _ _ _ h => h) hS0 (.inl ⟨by rfl, by intro w hSw; (try dsimp only at hSw); go_simp⟩) ?_
          simp only [Act.put]
          refine HeadW.take 2 (v := .pointer (some ⟨gs, 0, none⟩)) rfl (by kernel_rfl) (by kernel_rfl) (by kernel_rfl) (by decide) (by decide) (fun _ _ _ hL => seqB_ready hL.1) (by kernel_rfl) (by kernel_rfl) (fun _ _ _ h => h) hS0 (.inl ⟨by rfl, by intro w hSw; (try dsimp only at hSw); go_simp⟩) ?_
          simp only [Act.put]
          refine HeadW.take 3 (v := .pointer (some ⟨gs, 2, none⟩)) rfl (by kernel_rfl) (by kernel_rfl) (by kernel_rfl) (by decide) (by decide) (fun _ _ _ hL => seqB_ready hL.1) (by kernel_rfl) (by kernel_rfl) (fun _ _ _ h => h) hS0 (.inl ⟨by rfl, by intro w hSw; (try dsimp only at hSw); go_simp⟩) ?_
          simp only [Act.put]
          refine HeadW.take 4 (v := .slice AL k cL) rfl (by kernel_rfl) (by kernel_rfl) (by kernel_rfl) (by decide) (by decide) (fun _ _ _ hL => seqB_ready hL.1) (by kernel_rfl) (by kernel_rfl) (fun _ _ _ h => h) hS0 (.inl ⟨by rfl, by intro w hSw; (try dsimp only at hSw); go_simp⟩) ?_
          simp only [Act.put]
          refine HeadW.take 5 (v := .pointer (some ⟨g, 0, none⟩)) rfl (by kernel_rfl) (by kernel_rfl) (by kernel_rfl) (by decide) (by decide) (fun _ _ _ hL => seqB_ready hL.1) (by kernel_rfl) (by kernel_rfl) (fun _ _ _ h => h) hS0 (.inl ⟨by rfl, by intro w hSw; (try dsimp only at hSw); go_simp⟩) ?_
          simp only [Act.put]
          refine HeadW.one 6 rfl (by decide) (by kernel_rfl) fun K hK => ?_
          go_simp
          refine (rLeft_any g c _ A bs w8.drew (hrd8.drewN 1) hl).mono ?_
          rintro e _ ⟨rfl, m, rfl⟩
          have hzl : a2 ≤ bs.length := hrd8.le
          obtain ⟨lv, hlv⟩ : ∃ lv : Nat, lv = bs.length - a2 := ⟨_, rfl⟩
          rw [← hlv]
          obtain ⟨w9, hw9⟩ : ∃ w9, w9 = w8.drew.drewN m := ⟨_, rfl⟩
          have hO9 : Below w8.heap.size w8 w9 := by rw [hw9]; exact below_drewN (below_drewN (Below.refl _ _) 1) m
          have hz9 : w9.heap.size = w8.heap.size := by rw [hw9]; rfl
          have hS9 : w9.cell? ⟨gs, 2, none⟩ = some (.slice AL k cL) ∧ w9.frozen? ⟨gs, 2, none⟩ = false := by rw [hw9]; exact ⟨s2, f2⟩
          rw [← hw9]
          have Hlv := Lib.hid hlv
          clear hw9 hlv
          refine hK.out _ _ hS9 (fun hHeld => ?_)
          clear hK K hHeld hS0
          refine HeadW.one 7 rfl (by decide) (by kernel_rfl) fun K hK => ?_
          go_simp
          obtain ⟨wc, hwc⟩ : ∃ wc, wc = w9.alloc (.cells #[.int .i64 (lv : Int)] 3) := ⟨_, rfl⟩
          have hOc : Below w9.heap.size w9 wc := by rw [hwc]; exact (Below.refl _ _).alloc (Nat.le_refl _) _
          have hRc : RV wc (some ⟨w9.heap.size, 0, none⟩) [.int .i64 (lv : Int)] := by rw [hwc]; exact RV.of_blk (Blk.new w9 _ #[_])
          have hzc : wc.heap.size = w9.heap.size + 1 := by rw [hwc]; simp
          rw [hz9] at hRc
          have hOc8 : Below w8.heap.size w8 wc := hO9.trans (hOc.mono (by omega))
          have hblkc := hblk8.below hOc8 hgs8
          have hleftc := hleft8.below hOc8 (Nat.le_refl _)
          have hownc := hown8.below hOc8 (Nat.le_refl _)
          have hrdc := hrd8.below hOc8
          rw [← hwc]
          clear hwc
          refine hK.out _ _ ⟨hblkc.cell 2, hblkc.frozen 2⟩ (fun hHeld => ?_)
          clear hK K hHeld
          refine HeadW.one 8 rfl (by decide) (by kernel_rfl) fun K hK => ?_
          refine step_app (by rfl) (.tmp 84) (.tmp 87) eInt (by rfl) (base := w.heap.size) (n := k) (c := cL) (A := AL) (vs := leftG bs ats k) (by rfl) hleftc (A' := some ⟨w8.heap.size, 0, none⟩) (m := 1) (c' := 1) (us := [.int .i64 (lv : Int)]) (by rfl) hRc rfl (fun v hv => by rcases List.mem_singleton.1 hv with rfl; rfl) (by unfold maxLen; omega) (by omega) (by omega) (by simp) ?_
          intro AL2 cL2 w10 hown10 hgrow10 hat10
          have ho10 : Only (fun b => AL.map (·.block) = some b) wc w10 := Only.of_grown hgrow10 fun b e => e
          have hALlt : ∀ b, AL.map (·.block) = some b → w.heap.size ≤ b := fun b h => (Own.row hleft8 b h).1
          have hblk10 := hblkc.only ho10 (hleftc.ne_map hblkc (by decide))
          have hrow10 := hownc.only ho10 (hleftc.ne_map2 hownc (by decide))
          have hown10b : ∀ z ∈ told, Mine w10 w.heap.size z := fun z hz => ((hown8b z hz).below hOc8).only ho10 (hleftc.ne_mine ((hown8b z hz).below hOc8) (by decide))
          have hyo10 : Mine w10 w.heap.size y := (hyo8.below hOc8).only ho10 (hleftc.ne_mine (hyo8.below hOc8) (by decide))
          have hrd10 := hrdc.only ho10 (hleftc.ne_map hrdc.blk (by decide)) fun b o e h => by have := (HA.out b o e).2; have := hALlt b h; omega
          have hOw10 : Only (fun b => b = g ∨ b = gs) w w10 := (hOw8.trans (Only.of_fresh hOc8)).more ho10 fun b hb h => by have := hALlt b h; omega
          refine hK.out _ _ ⟨hblk10.cell 2, hblk10.frozen 2⟩ (fun hHeld => ?_)
          refine fun _ => ⟨by kernel_rfl, ?_⟩
          have f102 := hblk10.frozen 2
          have c102 : w10.cell? ⟨gs, 2, none⟩ = some (.slice AL k cL) := hblk10.cell 2
          have hgs10 := hblk10.lt
          have Hblk10 := Lib.hid hblk10
          have Hown10 := Lib.hid hown10
          have Hrow10 := Lib.hid hrow10
          have Hown10b := Lib.hid hown10b
          have Hyo10 := Lib.hid hyo10
          have Hrd10 := Lib.hid hrd10
          have HOw10 := Lib.hid hOw10
          clear hK K hHeld hblk10 hown10 hrow10 hown10b hyo10 hrd10 hOw10 hgrow10 hat10 ho10 hblkc hleftc hownc hrdc hOc hOc8 hRc hO9 hS9 hblk8 hown8 hleft8 hown8b hyo8 hrd8 hOw8 ho8 s2 f2
          go_wp2_with fail
          refine ⟨⟨k + 1, fun j => if j = k + 1 then a2 else ats j, A2, c2', AL2, cL2, told ++ [y], by omega, by go_num, ⟨?_, ?_, ?_, ?_, ?_, ?_, ?_, ?_⟩, ?_, ?_⟩, by simp [intOf]; omega⟩
          · exact Blk.setL (cs := [.slice (some ⟨pb, poff, none⟩) all.length cW, .slice A2 (k + 1) c2', .slice AL k cL, .pointer (some ⟨g, 0, none⟩)]) Hblk10.out 2 _
          · have h := Hrow10.out.only (S := fun b => b = gs) (w' := w10.setCell ⟨gs, 2, none⟩ (.slice AL2 (k + 1) cL2)) ((Only.refl (fun b => b = gs) w10).setCell (p := ⟨gs, 2, none⟩) (.inl rfl) _) fun b o e h => Hrow10.out.ne_blk Hblk10.out (by decide) b o e h
            rw [List.flatMap_append]
            simpa using h
          · have h := Hown10.out.only (S := fun b => b = gs) (w' := w10.setCell ⟨gs, 2, none⟩ (.slice AL2 (k + 1) cL2)) ((Only.refl (fun b => b = gs) w10).setCell (p := ⟨gs, 2, none⟩) (.inl rfl) _) fun b o e h => Hown10.out.ne_blk Hblk10.out (by decide) b o e h
            have e := leftG_next bs ats k a2
            rw [← Hlv.out] at e
            rw [e]
            exact h
          · rw [List.length_append, HS6.out.len]; rfl
          · exact (if_neg (by omega)).trans HS6.out.zero
          · intro j hj h2
            rcases Nat.lt_or_ge j k with h | h
            · obtain ⟨z, hz, hz2⟩ := HS6.out.step j h h2
              refine ⟨z, by rw [List.getElem?_append_left (by rw [HS6.out.len]; exact h)]; exact hz, ?_⟩
              rw [if_neg (by omega), if_neg (by omega)]
              exact hz2
            · obtain rfl : j = k := by omega
              refine ⟨y, by rw [List.getElem?_append_right (by rw [HS6.out.len]; exact h), HS6.out.len, Nat.sub_self]; rfl, ?_⟩
              rw [if_neg (by omega), if_pos rfl, ← Hxe.out]
              exact Has.out
          · intro z hz
            have hz2 : Mine w10 w.heap.size z := by
              rcases List.mem_append.1 hz with h | h
              · exact Hown10b.out z h
              · rcases List.mem_singleton.1 h with rfl
                exact Hyo10.out
            exact hz2.only ((Only.refl (fun b => b = gs) w10).setCell (p := ⟨gs, 2, none⟩) (.inl rfl) _) fun b o e h => hz2.ne_blk Hblk10.out (by decide) b o e h
          · intro i j yi yj hij hi
            exact sole_snoc HS6.out.sole Hsole.out hij hi
          · show Rd _ g A c bs (if k + 1 = k + 1 then a2 else ats (k + 1)) false 0
            rw [if_pos rfl]
            exact Hrd10.out.only ((Only.refl (fun b => b = gs) w10).setCell (p := ⟨gs, 2, none⟩) (.inl rfl) _) (fun h => hgs h.symm) fun b o e h => (HA.out b o e).1 h
          · exact HOw10.out.setCell (p := ⟨gs, 2, none⟩) (.inl (.inr rfl)) _
      by_cases h3 : x.kind = 3
      · clear h1 h2
        have q1 : (x.kind == 1) = false := by rw [beq_eq_false_iff_ne]; omega
        have q2 : (x.kind == 2) = false := by rw [beq_eq_false_iff_ne]; omega
        have g2 : (x.kind == 3) = true := by rw [beq_iff_eq]; exact h3
        have Hkd := Lib.hid h3
        clear h3
        have hc := rBool_any g c (ats k) A bs wa Hrda.out hl
        cases hr : rBoolL bs (ats k) with
        | error f =>
          rw [hr] at hc
          have hfz : f ≠ 0 := rBool_err hr
          have Herr := Lib.hid (show Err1 bs (ats k) x f from Err1.bool Hkd.out hr)
          clear hr
          dsimp only at hc
          go_wp2_with fail
          rw [← Hwa.out]
          refine hc.mono ?_
          rintro e w5 ⟨rfl, ⟨at5, hrd5⟩, ho5⟩
          have hO5 : Only (fun b => b = g ∨ b = gs) w w5 := HO.out.trans (((Only.of_fresh Hba.out).trans ho5).mono fun _ _ e => .inl e)
          have HO5 := Lib.hid hO5
          have Hrd5 := Lib.hid hrd5
          clear hO5 hrd5 ho5 hc
          go_wp2_with fail
          exact ⟨rfl, HO5.out, .inr ⟨f, at5, hfz, rfl, Hrd5.out, k, ats, told, hlt, HS.out.zero, HS.out.step, by rw [← Hxe.out]; exact Herr.out⟩⟩
        | ok p =>
          rw [hr] at hc
          skip
          have Hr := Lib.hid hr
          clear hr
          dsimp only at hc
          obtain ⟨a2, ha2⟩ : ∃ a2, a2 = ats k + 1 := ⟨_, rfl⟩
          rw [← ha2] at hc
          have Ha2 := Lib.hid ha2
          clear ha2
          cases p with
          | true =>
            go_wp2_with fail
            rw [← Hwa.out]
            refine hc.mono ?_
            rintro e w5 ⟨rfl, hrd5, ho5⟩
            have hB5 := HBa.out.only ho5 (by omega)
            have hf5 := hB5.frozen 1
            have hc51 : w5.cell? ⟨wr.heap.size, 1, none⟩ = some (.int .i64 0) := hB5.cell 1
            have hgi := hB5.lt
            have Hrd5 := Lib.hid hrd5
            have Ho5 := Lib.hid ho5
            have HB5 := Lib.hid hB5
            clear hc hrd5 ho5 hB5
            go_wp2_with fail
            obtain ⟨y, hy⟩ : ∃ y : Item, y = ⟨x.kind, 1, ⟨none, 0, []⟩⟩ := ⟨_, rfl⟩
            obtain ⟨w6, hw6⟩ : ∃ w6, w6 = w5.setCell ⟨wr.heap.size, 1, none⟩ (.int .i64 1) := ⟨_, rfl⟩
            have hB6 : Blk w6 wr.heap.size 30 (itemCells y).toArray := by rw [hw6, hy]; exact Blk.setL (cs := [.int .i64 x.kind, .int .i64 0, .slice none 0 0]) HB5.out 1 _
            have ho6 : Only (fun b => b = g) wr w6 := by rw [hw6]; exact (((Only.of_fresh Hba.out).trans Ho5.out).setCell (p := ⟨wr.heap.size, 1, none⟩) (.inr (Nat.le_refl _)) _)
            have hrd6 : Rd w6 g A c bs a2 false 0 := by
              rw [hw6]
              exact Hrd5.out.only ((Only.refl (fun b => b = wr.heap.size) w5).setCell (p := ⟨wr.heap.size, 1, none⟩) (.inl rfl) _) (by omega) fun b o e => by have := (HA.out b o e).2; have := HO.out.size; omega
            have has : Step bs (ats k) x y a2 := by
              rw [hy]
              exact ⟨rfl, Hrd5.out.le, Step1.bool Hkd.out Hr.out Ha2.out⟩
            have hyo : Mine w6 w.heap.size y := by
              rw [hy]
              exact Mine.empty _ _ _ _
            have hyf : ∀ b o, y.p.A = some ⟨b, o, none⟩ → wr.heap.size ≤ b := by
              rw [hy]
              exact fun b o h => (by cases h)
            have hS6 := HS.out.onto Hrd2.out.blk ho6 hgs
            have c0 : w6.cell? ⟨wr.heap.size, 0, none⟩ = some (.int .i64 y.kind) := hB6.cell 0
            have c1 : w6.cell? ⟨wr.heap.size, 1, none⟩ = some (.int .i64 y.n) := hB6.cell 1
            have c2 : w6.cell? ⟨wr.heap.size, 2, none⟩ = some (.slice y.p.A y.p.ys.length y.p.c) := hB6.cell 2
            rw [← hw6]
            have hsole : ∀ z ∈ told, ∀ b o o', z.p.A = some ⟨b, o, none⟩ → y.p.A ≠ some ⟨b, o', none⟩ := fun z hz b o o' h1 h2 => by
              have e1 := (HS.out.own z hz).lt b o h1
              have e2 := hyf b o' h2
              omega
            have Hsole := Lib.hid hsole
            clear hsole hyf
            have hgi6 := hB6.lt
            have HB6 := Lib.hid hB6
            have HO6 := Lib.hid (HO.out.trans (ho6.mono fun _ _ e => .inl e))
            have Hrd6 := Lib.hid hrd6
            have Has := Lib.hid has
            have Hyo := Lib.hid hyo
            have HS6 := Lib.hid hS6
            clear hw6 hB6 ho6 hrd6 has hyo hS6 HB5 Ho5 Hrd5 hf5 hc51 hy HBa Hrda Hwa HS Hrd2 HO s0 ck cp hgi
            have s1 : w6.cell? ⟨gs, 1, none⟩ = some (.slice AT k cT) := HS6.out.blk.cell 1
            have f1 := HS6.out.blk.frozen 1
            have hgs6 := HS6.out.blk.lt
            have hb6 : w.heap.size ≤ w6.heap.size := HO6.out.size
            have hfa : ∀ o, ((w6.alloc o).drew).frozen? ⟨gs, 1, none⟩ = false := fun o => by rw [(ocell (((Only.refl (fun _ => False) w6).alloc o).drew)).2 gs 1 hgs6 (fun h => h)]; exact f1
            refine region_heldT 8 (fun w' => w'.cell? ⟨gs, 1, none⟩ = some (.slice AT k cT) ∧ w'.frozen? ⟨gs, 1, none⟩ = false ∧ w'.cell? ⟨wr.heap.size, 0, none⟩ = some (.int .i64 y.kind) ∧ w'.cell? ⟨wr.heap.size, 1, none⟩ = some (.int .i64 y.n) ∧ w'.cell? ⟨wr.heap.size, 2, none⟩ = some (.slice y.p.A y.p.ys.length y.p.c)) (by kernel_rfl) (by decide) ?_
            have hS0 : (fun w' : World => w'.cell? ⟨gs, 1, none⟩ = some (.slice AT k cT) ∧ w'.frozen? ⟨gs, 1, none⟩ = false ∧ w'.cell? ⟨wr.heap.size, 0, none⟩ = some (.int .i64 y.kind) ∧ w'.cell? ⟨wr.heap.size, 1, none⟩ = some (.int .i64 y.n) ∧ w'.cell? ⟨wr.heap.size, 2, none⟩ = some (.slice y.p.A y.p.ys.length y.p.c)) w6.drew := ⟨s1, f1, c0, c1, c2⟩
            refine HeadW.take 0 (v := .pointer (some ⟨gs, 0, none⟩)) rfl (by kernel_rfl) (by kernel_rfl) (by kernel_rfl) (by decide) (by decide) (fun _ _ _ hL => seqB_ready hL.1) (by kernel_rfl) (by kernel_rfl) (fun _ _ _ h => h) hS0 (.inl ⟨by rfl, by intro w hSw; (try dsimp only at hSw); go_simp⟩) ?_
            simp only [Act.put, List.setIfInBounds_toArray]
            refine HeadW.take 1 (v := .pointer (some ⟨gs, 0, none⟩)) rfl (by kernel_rfl) (by kernel_rfl) (by kernel_rfl) (by decide) (by decide) (fun _ _ _ hL => seqB_ready hL.1) (by kernel_rfl) (by kernel_rfl) (fun _ _ _ h => h) hS0 (.inl ⟨by rfl, by intro w hSw; (try dsimp only at hSw); go_simp⟩) ?_
            simp only [Act.put]
            refine HeadW.take 2 (v := .pointer (some ⟨gs, 0, none⟩)) rfl (by kernel_rfl) (by kernel_rfl) (by kernel_rfl) (by decide) (by decide) (fun _ _ _ hL => seqB_ready hL.1) (by kernel_rfl) (by kernel_rfl) (fun _ _ _ h => h) hS0 (.inl ⟨by rfl, by intro w hSw; (try dsimp only at hSw); go_simp⟩) ?_
            simp only [Act.put]
            refine HeadW.take 3 (v := .pointer (some ⟨gs, 1, none⟩)) rfl (by kernel_rfl) (by kernel_rfl) (by kernel_rfl) (by decide) (by decide) (fun _ _ _ hL => seqB_ready hL.1) (by kernel_rfl) (by kernel_rfl) (fun _ _ _ h => h) hS0 (.inl ⟨by rfl, by intro w hSw; (try dsimp only at hSw); go_simp⟩) ?_
            simp only [Act.put]
            refine HeadW.take 4 (v := .slice AT k cT) rfl (by kernel_rfl) (by kernel_rfl) (by kernel_rfl) (by decide) (by decide) (fun _ _ _ hL => seqB_ready hL.1) (by kernel_rfl) (by kernel_rfl) (fun _ _ _ h => h) hS0 (.inl ⟨by rfl, by intro w hSw; (try dsimp only at hSw); go_simp⟩) ?_
            simp only [Act.put]
            refine HeadW.take 5 (v := .agg #[.int .i64 y.kind, .int .i64 y.n, .slice y.p.A y.p.ys.length y.p.c]) rfl (by kernel_rfl) (by kernel_rfl) (by kernel_rfl) (by decide) (by decide) (fun _ _ _ hL => seqB_ready hL.1) (by kernel_rfl) (by kernel_rfl) (fun _ _ _ h => h) hS0 (.inl ⟨by rfl, by intro w hSw; (try dsimp only at hSw); go_simp⟩) ?_
            simp only [Act.put]
            refine HeadW.one 6 rfl (by decide) (by kernel_rfl) fun K hK => ?_
            go_simp
            obtain ⟨wb, hwb⟩ : ∃ wb, wb = (w6.alloc (.cells #[.int .i64 y.kind, .int .i64 y.n, .slice y.p.A y.p.ys.length y.p.c] 30)).drew := ⟨_, rfl⟩
            have hOb : Below w6.heap.size w6 wb := by rw [hwb]; exact below_drewN ((Below.refl _ _).alloc (Nat.le_refl _) _) 1
            have hRb : RV wb (some ⟨w6.heap.size, 0, none⟩) (itemCells y) := by rw [hwb]; exact (RV.of_blk (Blk.new w6 _ #[_, _, _])).drew
            have hfb : wb.frozen? ⟨gs, 1, none⟩ = false := by rw [hwb]; exact hfa _
            have hzb : wb.heap.size = w6.heap.size + 1 := by rw [hwb]; simp
            have hSb := HS6.out.below hOb
            have hrdb := Hrd6.out.below hOb
            rw [← hwb]
            refine hK.out _ _ ⟨hSb.blk.cell 1, hfb, by rw [(bcell hOb).1 _ _ hgi6]; exact c0, by rw [(bcell hOb).1 _ _ hgi6]; exact c1, by rw [(bcell hOb).1 _ _ hgi6]; exact c2⟩ (fun hHeld => ?_)
            clear hK K hfa hS0 hwb s1 f1
            refine HeadW.one 7 rfl (by decide) (by kernel_rfl) fun K hK => ?_
            refine step_app (by rfl) (.tmp 74) (.tmp 76) eItem (by rfl) (base := w.heap.size) (n := k) (c := cT) (A := AT) (vs := told.flatMap itemCells) (by rfl) hSb.rowT (A' := some ⟨w6.heap.size, 0, none⟩) (m := 1) (c' := 1) (us := itemCells y) (by rfl) hRb rfl (items_one [y]) (by unfold maxLen; omega) (by omega) (by omega) (by simp) ?_
            intro A2 c2' w7 hown7 hgrow7 hat7
            have ho7 : Only (fun b => AT.map (·.block) = some b) wb w7 := Only.of_grown hgrow7 fun b e => e
            have hblk7 := hSb.blk.only ho7 (hSb.rowT.ne_map hSb.blk (by decide))
            have hleft7 := hSb.left.only ho7 (hSb.rowT.ne_map2 hSb.left (by decide))
            have hown7b : ∀ z ∈ told, Mine w7 w.heap.size z := fun z hz => (hSb.own z hz).only ho7 (hSb.rowT.ne_mine (hSb.own z hz) (by decide))
            have hyo7 : Mine w7 w.heap.size y := (Hyo.out.below hOb).only ho7 (hSb.rowT.ne_mine (Hyo.out.below hOb) (by decide))
            have hrd7 := hrdb.only ho7 (hSb.rowT.ne_map hrdb.blk (by decide)) fun b o e h => by have := (HA.out b o e).2; have := (HATlt.out b h).1; omega
            have hOw7 : Only (fun b => b = g ∨ b = gs) w w7 := (HO6.out.trans (Only.of_fresh hOb)).more ho7 fun b hb h => by have := (HATlt.out b h).1; omega
            have hgi7 : w7.cell? ⟨wr.heap.size, 0, none⟩ = some (.int .i64 y.kind) ∧ w7.cell? ⟨wr.heap.size, 1, none⟩ = some (.int .i64 y.n) ∧ w7.cell? ⟨wr.heap.size, 2, none⟩ = some (.slice y.p.A y.p.ys.length y.p.c) := by
              have hni : ¬ (AT.map (·.block) = some wr.heap.size) := fun h => by have := (HATlt.out _ h).2; omega
              refine ⟨?_, ?_, ?_⟩ <;> rw [(ocell ho7).1 _ _ (by omega) hni, (bcell hOb).1 _ _ hgi6] <;> assumption
            refine hK.out _ _ ⟨hblk7.cell 1, hblk7.frozen 1, hgi7⟩ (fun hHeld => ?_)
            refine fun _ => ⟨by kernel_rfl, ?_⟩
            have f71 := hblk7.frozen 1
            have c71 : w7.cell? ⟨gs, 1, none⟩ = some (.slice AT k cT) := hblk7.cell 1
            have hgs7 := hblk7.lt
            have Hblk7 := Lib.hid hblk7
            have Hown7 := Lib.hid hown7
            have Hleft7 := Lib.hid hleft7
            have Hown7b := Lib.hid hown7b
            have Hyo7 := Lib.hid hyo7
            have Hrd7 := Lib.hid hrd7
            have HOw7 := Lib.hid hOw7
            clear hK K hHeld hblk7 hown7 hleft7 hown7b hyo7 hrd7 hOw7 hgi7 hgrow7 hat7 ho7 hSb hrdb hOb hRb hfb hzb c0 c1 c2 Hba
            go_wp2_with fail
            obtain ⟨w8, hw8⟩ : ∃ w8, w8 = w7.setCell ⟨gs, 1, none⟩ (.slice A2 (k + 1) c2') := ⟨_, rfl⟩
            rw [← hw8]
            have ho8 : Only (fun b => b = gs) w7 w8 := by rw [hw8]; exact (Only.refl (fun b => b = gs) w7).setCell (p := ⟨gs, 1, none⟩) (.inl rfl) _
            have hblk8 : Blk w8 gs 83 #[.slice (some ⟨pb, poff, none⟩) all.length cW, .slice A2 (k + 1) c2', .slice AL k cL, .pointer (some ⟨g, 0, none⟩)] := by
              rw [hw8]; exact Blk.setL (cs := [.slice (some ⟨pb, poff, none⟩) all.length cW, .slice AT k cT, .slice AL k cL, .pointer (some ⟨g, 0, none⟩)]) Hblk7.out 1 _
            clear hw8
            have hown8 := Hown7.out.only ho8 fun b o e h => Hown7.out.ne_blk Hblk7.out (by decide) b o e h
            have hleft8 := Hleft7.out.only ho8 fun b o e h => Hleft7.out.ne_blk Hblk7.out (by decide) b o e h
            have hown8b : ∀ z ∈ told, Mine w8 w.heap.size z := fun z hz => (Hown7b.out z hz).only ho8 fun b o e h => (Hown7b.out z hz).ne_blk Hblk7.out (by decide) b o e h
            have hyo8 := Hyo7.out.only ho8 fun b o e h => Hyo7.out.ne_blk Hblk7.out (by decide) b o e h
            have hrd8 := Hrd7.out.only ho8 (fun h => hgs h.symm) fun b o e h => (HA.out b o e).1 h
            have hOw8 : Only (fun b => b = g ∨ b = gs) w w8 := HOw7.out.trans (ho8.mono fun _ _ e => .inr e)
            have s2 : w8.cell? ⟨gs, 2, none⟩ = some (.slice AL k cL) := hblk8.cell 2
            have f2 := hblk8.frozen 2
            have hgs8 := hblk8.lt
            have hb8 : w.heap.size ≤ w8.heap.size := hOw8.size
            have hS0 : (fun w' : World => w'.cell? ⟨gs, 2, none⟩ = some (.slice AL k cL) ∧ w'.frozen? ⟨gs, 2, none⟩ = false) w8.drew := ⟨s2, f2⟩
            refine region_heldT 9 (fun w' => w'.cell? ⟨gs, 2, none⟩ = some (.slice AL k cL) ∧ w'.frozen? ⟨gs, 2, none⟩ = false) (by kernel_rfl) (by decide) ?_
            refine HeadW.take 0 (v := .pointer (some ⟨gs, 0, none⟩)) rfl (by kernel_rfl) (by kernel_rfl) (by kernel_rfl) (by decide) (by decide) (fun _ _ _ hL => seqB_ready hL.1) (by kernel_rfl) (by kernel_rfl) (fun _ _ _ h => h) hS0 (.inl ⟨by rfl, by intro w hSw; (try dsimp only at hSw); go_simp⟩) ?_
            simp only [Act.put, List.setIfInBounds_toArray]
            refine HeadW.take 1 (v := .pointer (some ⟨gs, 0, none⟩)) rfl (by kernel_rfl) (by kernel_rfl) (by kernel_rfl) (by decide) (by decide) (fun _ _ _ hL => seqB_ready hL.1) (by kernel_rfl) (by kernel_rfl) (fun _ _ _ h => h) hS0 (.inl ⟨by rfl, by intro w hSw; (try dsimp only at hSw); go_simp⟩) ?_
            simp only [Act.put]
            refine HeadW.take 2 (v := .pointer (some ⟨gs, 0, none⟩)) rfl (by kernel_rfl) (by kernel_rfl) (by kernel_rfl) (by decide) (by decide) (fun _ _ _ hL => seqB_ready hL.1) (by kernel_rfl) (by kernel_rfl) (fun _ _ _ h => h) hS0 (.inl ⟨by rfl, by intro w hSw; (try dsimp only at hSw); go_simp⟩) ?_
            simp only [Act.put]
            refine HeadW.take 3 (v := .pointer (some ⟨gs, 2, none⟩)) rfl (by kernel_rfl) (by kernel_rfl) (by kernel_rfl) (by decide) (by decide) (fun _ _ _ hL => seqB_ready hL.1) (by kernel_rfl) (by kernel_rfl) (fun _ _ _ h => h) hS0 (.inl ⟨by rfl, by intro w hSw; (try dsimp only at hSw); go_simp⟩) ?_
            simp only [Act.put]
            refine HeadW.take 4 (v := .slice AL k cL) rfl (by kernel_rfl) (by kernel_rfl) (by kernel_rfl) (by decide) (by decide) (fun _ _ _ hL => seqB_ready hL.1) (by kernel_rfl) (by kernel_rfl) (fun _ _ _ h => h) hS0 (.inl ⟨by rfl, by intro w hSw; (try dsimp only at hSw); go_simp⟩) ?_
            simp only [Act.put]
            refine HeadW.take 5 (v := .pointer (some ⟨g, 0, none⟩)) rfl (by kernel_rfl) (by kernel_rfl) (by kernel_rfl) (by decide) (by decide) (fun _ _ _ hL => seqB_ready hL.1) (by kernel_rfl) (by kernel_rfl) (fun _ _ _ h => h) hS0 (.inl ⟨by rfl, by intro w hSw; (try dsimp only at hSw); go_simp⟩) ?_
            simp only [Act.put]
            refine HeadW.one 6 rfl (by decide) (by kernel_rfl) fun K hK => ?_
            go_simp
            refine (rLeft_any g c _ A bs w8.drew (hrd8.drewN 1) hl).mono ?_
            rintro e _ ⟨rfl, m, rfl⟩
            have hzl : a2 ≤ bs.length := hrd8.le
            obtain ⟨lv, hlv⟩ : ∃ lv : Nat, lv = bs.length - a2 := ⟨_, rfl⟩
            rw [← hlv]
            obtain ⟨w9, hw9⟩ : ∃ w9, w9 = w8.drew.drewN m := ⟨_, rfl⟩
            have hO9 : Below w8.heap.size w8 w9 := by rw [hw9]; exact below_drewN (below_drewN (Below.refl _ _) 1) m
            have hz9 : w9.heap.size = w8.heap.size := by rw [hw9]; rfl
            have hS9 : w9.cell? ⟨gs, 2, none⟩ = some (.slice AL k cL) ∧ w9.frozen? ⟨gs, 2, none⟩ = false := by rw [hw9]; exact ⟨s2, f2⟩
            rw [← hw9]
            have Hlv := Lib.hid hlv
            clear hw9 hlv
            refine hK.out _ _ hS9 (fun hHeld => ?_)
            clear hK K hHeld hS0
            refine HeadW.one 7 rfl (by decide) (by kernel_rfl) fun K hK => ?_
            go_simp
            obtain ⟨wc, hwc⟩ : ∃ wc, wc = w9.alloc (.cells #[.int .i64 (lv : Int)] 3) := ⟨_, rfl⟩
            have hOc : Below w9.heap.size w9 wc := by rw [hwc]; exact (Below.refl _ _).alloc (Nat.le_refl _) _
            have hRc : RV wc (some ⟨w9.heap.size, 0, none⟩) [.int .i64 (lv : Int)] := by rw [hwc]; exact RV.of_blk (Blk.new w9 _ #[_])
            have hzc : wc.heap.size = w9.heap.size + 1 := by rw [hwc]; simp
            rw [hz9] at hRc
            have hOc8 : Below w8.heap.size w8 wc := hO9.trans (hOc.mono (by omega))
            have hblkc := hblk8.below hOc8 hgs8
            have hleftc := hleft8.below hOc8 (Nat.le_refl _)
            have hownc := hown8.below hOc8 (Nat.le_refl _)
            have hrdc := hrd8.below hOc8
            rw [← hwc]
            clear hwc
            refine hK.out _ _ ⟨hblkc.cell 2, hblkc.frozen 2⟩ (fun hHeld => ?_)
            clear hK K hHeld
            refine HeadW.one 8 rfl (by decide) (by kernel_rfl) fun K hK => ?_
            refine step_app (by rfl) (.tmp 84) (.tmp 87) eInt (by rfl) (base := w.heap.size) (n := k) (c := cL) (A := AL) (vs := leftG bs ats k) (by rfl) hleftc (A' := some ⟨w8.heap.size, 0, none⟩) (m := 1) (c' := 1) (us := [.int .i64 (lv : Int)]) (by rfl) hRc rfl (fun v hv => by rcases List.mem_singleton.1 hv with rfl; rfl) (by unfold maxLen; omega) (by omega) (by omega) (by simp) ?_
            intro AL2 cL2 w10 hown10 hgrow10 hat10
            have ho10 : Only (fun b => AL.map (·.block) = some b) wc w10 := Only.of_grown hgrow10 fun b e => e
            have hALlt : ∀ b, AL.map (·.block) = some b → w.heap.size ≤ b := fun b h => (Own.row hleft8 b h).1
            have hblk10 := hblkc.only ho10 (hleftc.ne_map hblkc (by decide))
            have hrow10 := hownc.only ho10 (hleftc.ne_map2 hownc (by decide))
            have hown10b : ∀ z ∈ told, Mine w10 w.heap.size z := fun z hz => ((hown8b z hz).below hOc8).only ho10 (hleftc.ne_mine ((hown8b z hz).below hOc8) (by decide))
            have hyo10 : Mine w10 w.heap.size y := (hyo8.below hOc8).only ho10 (hleftc.ne_mine (hyo8.below hOc8) (by decide))
            have hrd10 := hrdc.only ho10 (hleftc.ne_map hrdc.blk (by decide)) fun b o e h => by have := (HA.out b o e).2; have := hALlt b h; omega
            have hOw10 : Only (fun b => b = g ∨ b = gs) w w10 := (hOw8.trans (Only.of_fresh hOc8)).more ho10 fun b hb h => by have := hALlt b h; omega
            refine hK.out _ _ ⟨hblk10.cell 2, hblk10.frozen 2⟩ (fun hHeld => ?_)
            refine fun _ => ⟨by kernel_rfl, ?_⟩
            have f102 := hblk10.frozen 2
            have c102 : w10.cell? ⟨gs, 2, none⟩ = some (.slice AL k cL) := hblk10.cell 2
            have hgs10 := hblk10.lt
            have Hblk10 := Lib.hid hblk10
            have Hown10 := Lib.hid hown10
            have Hrow10 := Lib.hid hrow10
            have Hown10b := Lib.hid hown10b
            have Hyo10 := Lib.hid hyo10
            have Hrd10 := Lib.hid hrd10
            have HOw10 := Lib.hid hOw10
            clear hK K hHeld hblk10 hown10 hrow10 hown10b hyo10 hrd10 hOw10 hgrow10 hat10 ho10 hblkc hleftc hownc hrdc hOc hOc8 hRc hO9 hS9 hblk8 hown8 hleft8 hown8b hyo8 hrd8 hOw8 ho8 s2 f2
            go_wp2_with fail
            refine ⟨⟨k + 1, fun j => if j = k + 1 then a2 else ats j, A2, c2', AL2, cL2, told ++ [y], by omega, by go_num, ⟨?_, ?_, ?_, ?_, ?_, ?_, ?_, ?_⟩, ?_, ?_⟩, by simp [intOf]; omega⟩
            · exact Blk.setL (cs := [.slice (some ⟨pb, poff, none⟩) all.length cW, .slice A2 (k + 1) c2', .slice AL k cL, .pointer (some ⟨g, 0, none⟩)]) Hblk10.out 2 _
            · have h := Hrow10.out.only (S := fun b => b = gs) (w' := w10.setCell ⟨gs, 2, none⟩ (.slice AL2 (k + 1) cL2)) ((Only.refl (fun b => b = gs) w10).setCell (p := ⟨gs, 2, none⟩) (.inl rfl) _) fun b o e h => Hrow10.out.ne_blk Hblk10.out (by decide) b o e h
              rw [List.flatMap_append]
              simpa using h
            · have h := Hown10.out.only (S := fun b => b = gs) (w' := w10.setCell ⟨gs, 2, none⟩ (.slice AL2 (k + 1) cL2)) ((Only.refl (fun b => b = gs) w10).setCell (p := ⟨gs, 2, none⟩) (.inl rfl) _) fun b o e h => Hown10.out.ne_blk Hblk10.out (by decide) b o e h
              have e := leftG_next bs ats k a2
              rw [← Hlv.out] at e
              rw [e]
              exact h
            · rw [List.length_append, HS6.out.len]; rfl
            · exact (if_neg (by omega)).trans HS6.out.zero
            · intro j hj h2
              rcases Nat.lt_or_ge j k with h | h
              · obtain ⟨z, hz, hz2⟩ := HS6.out.step j h h2
                refine ⟨z, by rw [List.getElem?_append_left (by rw [HS6.out.len]; exact h)]; exact hz, ?_⟩
                rw [if_neg (by omega), if_neg (by omega)]
                exact hz2
              · obtain rfl : j = k := by omega
                refine ⟨y, by rw [List.getElem?_append_right (by rw [HS6.out.len]; exact h), HS6.out.len, Nat.sub_self]; rfl, ?_⟩
                rw [if_neg (by omega), if_pos rfl, ← Hxe.out]
                exact Has.out
            · intro z hz
              have hz2 : Mine w10 w.heap.size z := by
                rcases List.mem_append.1 hz with h | h
                · exact Hown10b.out z h
                · rcases List.mem_singleton.1 h with rfl
                  exact Hyo10.out
              exact hz2.only ((Only.refl (fun b => b = gs) w10).setCell (p := ⟨gs, 2, none⟩) (.inl rfl) _) fun b o e h => hz2.ne_blk Hblk10.out (by decide) b o e h
            · intro i j yi yj hij hi
              exact sole_snoc HS6.out.sole Hsole.out hij hi
            · show Rd _ g A c bs (if k + 1 = k + 1 then a2 else ats (k + 1)) false 0
              rw [if_pos rfl]
              exact Hrd10.out.only ((Only.refl (fun b => b = gs) w10).setCell (p := ⟨gs, 2, none⟩) (.inl rfl) _) (fun h => hgs h.symm) fun b o e h => (HA.out b o e).1 h
            · exact HOw10.out.setCell (p := ⟨gs, 2, none⟩) (.inl (.inr rfl)) _
          | false =>
            go_wp2_with fail
            rw [← Hwa.out]
            refine hc.mono ?_
            rintro e w5 ⟨rfl, hrd5, ho5⟩
            have hB5 := HBa.out.only ho5 (by omega)
            have hf5 := hB5.frozen 1
            have hc51 : w5.cell? ⟨wr.heap.size, 1, none⟩ = some (.int .i64 0) := hB5.cell 1
            have hgi := hB5.lt
            have Hrd5 := Lib.hid hrd5
            have Ho5 := Lib.hid ho5
            have HB5 := Lib.hid hB5
            clear hc hrd5 ho5 hB5
            go_wp2_with fail
            obtain ⟨y, hy⟩ : ∃ y : Item, y = ⟨x.kind, 0, ⟨none, 0, []⟩⟩ := ⟨_, rfl⟩
            obtain ⟨w6, hw6⟩ : ∃ w6, w6 = w5 := ⟨_, rfl⟩
            have hB6 : Blk w6 wr.heap.size 30 (itemCells y).toArray := by rw [hw6, hy]; exact HB5.out
            have ho6 : Only (fun b => b = g) wr w6 := by rw [hw6]; exact (Only.of_fresh Hba.out).trans Ho5.out
            have hrd6 : Rd w6 g A c bs a2 false 0 := by
              rw [hw6]
              exact Hrd5.out
            have has : Step bs (ats k) x y a2 := by
              rw [hy]
              exact ⟨rfl, Hrd5.out.le, Step1.bool Hkd.out Hr.out Ha2.out⟩
            have hyo : Mine w6 w.heap.size y := by
              rw [hy]
              exact Mine.empty _ _ _ _
            have hyf : ∀ b o, y.p.A = some ⟨b, o, none⟩ → wr.heap.size ≤ b := by
              rw [hy]
              exact fun b o h => (by cases h)
            have hS6 := HS.out.onto Hrd2.out.blk ho6 hgs
            have c0 : w6.cell? ⟨wr.heap.size, 0, none⟩ = some (.int .i64 y.kind) := hB6.cell 0
            have c1 : w6.cell? ⟨wr.heap.size, 1, none⟩ = some (.int .i64 y.n) := hB6.cell 1
            have c2 : w6.cell? ⟨wr.heap.size, 2, none⟩ = some (.slice y.p.A y.p.ys.length y.p.c) := hB6.cell 2
            rw [← hw6]
            have hsole : ∀ z ∈ told, ∀ b o o', z.p.A = some ⟨b, o, none⟩ → y.p.A ≠ some ⟨b, o', none⟩ := fun z hz b o o' h1 h2 => by
              have e1 := (HS.out.own z hz).lt b o h1
              have e2 := hyf b o' h2
              omega
            have Hsole := Lib.hid hsole
            clear hsole hyf
            have hgi6 := hB6.lt
            have HB6 := Lib.hid hB6
            have HO6 := Lib.hid (HO.out.trans (ho6.mono fun _ _ e => .inl e))
            have Hrd6 := Lib.hid hrd6
            have Has := Lib.hid has
            have Hyo := Lib.hid hyo
            have HS6 := Lib.hid hS6
            clear hw6 hB6 ho6 hrd6 has hyo hS6 HB5 Ho5 Hrd5 hf5 hc51 hy HBa Hrda Hwa HS Hrd2 HO s0 ck cp hgi
            have s1 : w6.cell? ⟨gs, 1, none⟩ = some (.slice AT k cT) := HS6.out.blk.cell 1
            have f1 := HS6.out.blk.frozen 1
            have hgs6 := HS6.out.blk.lt
            have hb6 : w.heap.size ≤ w6.heap.size := HO6.out.size
            have hfa : ∀ o, ((w6.alloc o).drew).frozen? ⟨gs, 1, none⟩ = false := fun o => by rw [(ocell (((Only.refl (fun _ => False) w6).alloc o).drew)).2 gs 1 hgs6 (fun h => h)]; exact f1
            refine region_heldT 8 (fun w' => w'.cell? ⟨gs, 1, none⟩ = some (.slice AT k cT) ∧ w'.frozen? ⟨gs, 1, none⟩ = false ∧ w'.cell? ⟨wr.heap.size, 0, none⟩ = some (.int .i64 y.kind) ∧ w'.cell? ⟨wr.heap.size, 1, none⟩ = some (.int .i64 y.n) ∧ w'.cell? ⟨wr.heap.size, 2, none⟩ = some (.slice y.p.A y.p.ys.length y.p.c)) (by kernel_rfl) (by decide) ?_
            have hS0 : (fun w' : World => w'.cell? ⟨gs, 1, none⟩ = some (.slice AT k cT) ∧ w'.frozen? ⟨gs, 1, none⟩ = false ∧ w'.cell? ⟨wr.heap.size, 0, none⟩ = some (.int .i64 y.kind) ∧ w'.cell? ⟨wr.heap.size, 1, none⟩ = some (.int .i64 y.n) ∧ w'.cell? ⟨wr.heap.size, 2, none⟩ = some (.slice y.p.A y.p.ys.length y.p.c)) w6.drew := ⟨s1, f1, c0, c1, c2⟩
            refine HeadW.take 0 (v := .pointer (some ⟨gs, 0, none⟩)) rfl (by kernel_rfl) (by kernel_rfl) (by kernel_rfl) (by decide) (by decide) (fun _ _ _ hL => seqB_ready hL.1) (by kernel_rfl) (by kernel_rfl) (fun _ _ _ h => h) hS0 (.inl ⟨by rfl, by intro w hSw; (try dsimp only at hSw); go_simp⟩) ?_
            simp only [Act.put, List.setIfInBounds_toArray]
            refine HeadW.take 1 (v := .pointer (some ⟨gs, 0, none⟩)) rfl (by kernel_rfl) (by kernel_rfl) (by kernel_rfl) (by decide) (by decide) (fun _ _ _ hL => seqB_ready hL.1) (by kernel_rfl) (by kernel_rfl) (fun _ _ _ h => h) hS0 (.inl ⟨by rfl, by intro w hSw; (try dsimp only at hSw); go_simp⟩) ?_
            simp only [Act.put]
            refine HeadW.take 2 (v := .pointer (some ⟨gs, 0, none⟩)) rfl (by kernel_rfl) (by kernel_rfl) (by kernel_rfl) (by decide) (by decide) (fun _ _ _ hL => seqB_ready hL.1) (by kernel_rfl) (by kernel_rfl) (fun _ _ _ h => h) hS0 (.inl ⟨by rfl, by intro w hSw; (try dsimp only at hSw); go_simp⟩) ?_
            simp only [Act.put]
            refine HeadW.take 3 (v := .pointer (some ⟨gs, 1, none⟩)) rfl (by kernel_rfl) (by kernel_rfl) (by kernel_rfl) (by decide) (by decide) (fun _ _ _ hL => seqB_ready hL.1) (by kernel_rfl) (by kernel_rfl) (fun _ _ _ h => h) hS0 (.inl ⟨by rfl, by intro w hSw; (try dsimp only at hSw); go_simp⟩) ?_
            simp only [Act.put]
            refine HeadW.take 4 (v := .slice AT k cT) rfl (by kernel_rfl) (by kernel_rfl) (by kernel_rfl) (by decide) (by decide) (fun _ _ _ hL => seqB_ready hL.1) (by kernel_rfl) (by kernel_rfl) (fun _ _ _ h => h) hS0 (.inl ⟨by rfl, by intro w hSw; (try dsimp only at hSw); go_simp⟩) ?_
            simp only [Act.put]
            refine HeadW.take 5 (v := .agg #[.int .i64 y.kind, .int .i64 y.n, .slice y.p.A y.p.ys.length y.p.c]) rfl (by kernel_rfl) (by kernel_rfl) (by kernel_rfl) (by decide) (by decide) (fun _ _ _ hL => seqB_ready hL.1) (by kernel_rfl) (by kernel_rfl) (fun _ _ _ h => h) hS0 (.inl ⟨by rfl, by intro w hSw; (try dsimp only at hSw); go_simp⟩) ?_
            simp only [Act.put]
            refine HeadW.one 6 rfl (by decide) (by kernel_rfl) fun K hK => ?_
            go_simp
            obtain ⟨wb, hwb⟩ : ∃ wb, wb = (w6.alloc (.cells #[.int .i64 y.kind, .int .i64 y.n, .slice y.p.A y.p.ys.length y.p.c] 30)).drew := ⟨_, rfl⟩
            have hOb : Below w6.heap.size w6 wb := by rw [hwb]; exact below_drewN ((Below.refl _ _).alloc (Nat.le_refl _) _) 1
            have hRb : RV wb (some ⟨w6.heap.size, 0, none⟩) (itemCells y) := by rw [hwb]; exact (RV.of_blk (Blk.new w6 _ #[_, _, _])).drew
            have hfb : wb.frozen? ⟨gs, 1, none⟩ = false := by rw [hwb]; exact hfa _
            have hzb : wb.heap.size = w6.heap.size + 1 := by rw [hwb]; simp
            have hSb := HS6.out.below hOb
            have hrdb := Hrd6.out.below hOb
            rw [← hwb]
            refine hK.out _ _ ⟨hSb.blk.cell 1, hfb, by rw [(bcell hOb).1 _ _ hgi6]; exact c0, by rw [(bcell hOb).1 _ _ hgi6]; exact c1, by rw [(bcell hOb).1 _ _ hgi6]; exact c2⟩ (fun hHeld => ?_)
            clear hK K hfa hS0 hwb s1 f1
            refine HeadW.one 7 rfl (by decide) (by kernel_rfl) fun K hK => ?_
            refine step_app (by rfl) (.tmp 74) (.tmp 76) eItem (by rfl) (base := w.heap.size) (n := k) (c := cT) (A := AT) (vs := told.flatMap itemCells) (by rfl) hSb.rowT (A' := some ⟨w6.heap.size, 0, none⟩) (m := 1) (c' := 1) (us := itemCells y) (by rfl) hRb rfl (items_one [y]) (by unfold maxLen; omega) (by omega) (by omega) (by simp) ?_
            intro A2 c2' w7 hown7 hgrow7 hat7
            have ho7 : Only (fun b => AT.map (·.block) = some b) wb w7 := Only.of_grown hgrow7 fun b e => e
            have hblk7 := hSb.blk.only ho7 (hSb.rowT.ne_map hSb.blk (by decide))
            have hleft7 := hSb.left.only ho7 (hSb.rowT.ne_map2 hSb.left (by decide))
            have hown7b : ∀ z ∈ told, Mine w7 w.heap.size z := fun z hz => (hSb.own z hz).only ho7 (hSb.rowT.ne_mine (hSb.own z hz) (by decide))
            have hyo7 : Mine w7 w.heap.size y := (Hyo.out.below hOb).only ho7 (hSb.rowT.ne_mine (Hyo.out.below hOb) (by decide))
            have hrd7 := hrdb.only ho7 (hSb.rowT.ne_map hrdb.blk (by decide)) fun b o e h => by have := (HA.out b o e).2; have := (HATlt.out b h).1; omega
            have hOw7 : Only (fun b => b = g ∨ b = gs) w w7 := (HO6.out.trans (Only.of_fresh hOb)).more ho7 fun b hb h => by have := (HATlt.out b h).1; omega
            have hgi7 : w7.cell? ⟨wr.heap.size, 0, none⟩ = some (.int .i64 y.kind) ∧ w7.cell? ⟨wr.heap.size, 1, none⟩ = some (.int .i64 y.n) ∧ w7.cell? ⟨wr.heap.size, 2, none⟩ = some (.slice y.p.A y.p.ys.length y.p.c) := by
              have hni : ¬ (AT.map (·.block) = some wr.heap.size) := fun h => by have := (HATlt.out _ h).2; omega
              refine ⟨?_, ?_, ?_⟩ <;> rw [(ocell ho7).1 _ _ (by omega) hni, (bcell hOb).1 _ _ hgi6] <;> assumption
            refine hK.out _ _ ⟨hblk7.cell 1, hblk7.frozen 1, hgi7⟩ (fun hHeld => ?_)
            refine fun _ => ⟨by kernel_rfl, ?_⟩
            have f71 := hblk7.frozen 1
            have c71 : w7.cell? ⟨gs, 1, none⟩ = some (.slice AT k cT) := hblk7.cell 1
            have hgs7 := hblk7.lt
            have Hblk7 := Lib.hid hblk7
            have Hown7 := Lib.hid hown7
            have Hleft7 := Lib.hid hleft7
            have Hown7b := Lib.hid hown7b
            have Hyo7 := Lib.hid hyo7
            have Hrd7 := Lib.hid hrd7
            have HOw7 := Lib.hid hOw7
            clear hK K hHeld hblk7 hown7 hleft7 hown7b hyo7 hrd7 hOw7 hgi7 hgrow7 hat7 ho7 hSb hrdb hOb hRb hfb hzb c0 c1 c2 Hba
            go_wp2_with fail
            obtain ⟨w8, hw8⟩ : ∃ w8, w8 = w7.setCell ⟨gs, 1, none⟩ (.slice A2 (k + 1) c2') := ⟨_, rfl⟩
            rw [← hw8]
            have ho8 : Only (fun b => b = gs) w7 w8 := by rw [hw8]; exact (Only.refl (fun b => b = gs) w7).setCell (p := ⟨gs, 1, none⟩) (.inl rfl) _
            have hblk8 : Blk w8 gs 83 #[.slice (some ⟨pb, poff, none⟩) all.length cW, .slice A2 (k + 1) c2', .slice AL k cL, .pointer (some ⟨g, 0, none⟩)] := by
              rw [hw8]; exact Blk.setL (cs := [.slice (some ⟨pb, poff, none⟩) all.length cW, .slice AT k cT, .slice AL k cL, .pointer (some ⟨g, 0, none⟩)]) Hblk7.out 1 _
            clear hw8
            have hown8 := Hown7.out.only ho8 fun b o e h => Hown7.out.ne_blk Hblk7.out (by decide) b o e h
            have hleft8 := Hleft7.out.only ho8 fun b o e h => Hleft7.out.ne_blk Hblk7.out (by decide) b o e h
            have hown8b : ∀ z ∈ told, Mine w8 w.heap.size z := fun z hz => (Hown7b.out z hz).only ho8 fun b o e h => (Hown7b.out z hz).ne_blk Hblk7.out (by decide) b o e h
            have hyo8 := Hyo7.out.only ho8 fun b o e h => Hyo7.out.ne_blk Hblk7.out (by decide) b o e h
            have hrd8 := Hrd7.out.only ho8 (fun h => hgs h.symm) fun b o e h => (HA.out b o e).1 h
            have hOw8 : Only (fun b => b = g ∨ b = gs) w w8 := HOw7.out.trans (ho8.mono fun _ _ e => .inr e)
            have s2 : w8.cell? ⟨gs, 2, none⟩ = some (.slice AL k cL) := hblk8.cell 2
            have f2 := hblk8.frozen 2
            have hgs8 := hblk8.lt
            have hb8 : w.heap.size ≤ w8.heap.size := hOw8.size
            have hS0 : (fun w' : World => w'.cell? ⟨gs, 2, none⟩ = some (.slice AL k cL) ∧ w'.frozen? ⟨gs, 2, none⟩ = false) w8.drew := ⟨s2, f2⟩
            refine region_heldT 9 (fun w' => w'.cell? ⟨gs, 2, none⟩ = some (.slice AL k cL) ∧ w'.frozen? ⟨gs, 2, none⟩ = false) (by kernel_rfl) (by decide) ?_
            refine HeadW.take 0 (v := .pointer (some ⟨gs, 0, none⟩)) rfl (by kernel_rfl) (by kernel_rfl) (by kernel_rfl) (by decide) (by decide) (fun _ _ _ hL => seqB_ready hL.1) (by kernel_rfl) (by kernel_rfl) (fun _ _ _ h => h) hS0 (.inl ⟨by rfl, by intro w hSw; (try dsimp only at hSw); go_simp⟩) ?_
            simp only [Act.put, List.setIfInBounds_toArray]
            refine HeadW.take 1 (v := .pointer (some ⟨gs, 0, none⟩)) rfl (by kernel_rfl) (by kernel_rfl) (by kernel_rfl) (by decide) (by decide) (fun _ _ _ hL => seqB_ready hL.1) (by kernel_rfl) (by kernel_rfl) (fun _ _ _ h => h) hS0 (.inl ⟨by rfl, by intro w hSw; (try dsimp only at hSw); go_simp⟩) ?_
            simp only [Act.put]
            refine HeadW.take 2 (v := .pointer (some ⟨gs, 0, none⟩)) rfl (by kernel_rfl) (by kernel_rfl) (by kernel_rfl) (by decide) (by decide) (fun _ _ _ hL => seqB_ready hL.1) (by kernel_rfl) (by kernel_rfl) (fun _ _ _ h => h) hS0 (.inl ⟨by rfl, by intro w hSw; (try dsimp only at hSw); go_simp⟩) ?_
            simp only [Act.put]
            refine HeadW.take 3 (v := .pointer (some ⟨gs, 2, none⟩)) rfl (by kernel_rfl) (by kernel_rfl) (by kernel_rfl) (by decide) (by decide) (fun _ _ _ hL => seqB_ready hL.1) (by kernel_rfl) (by kernel_rfl) (fun _ _ _ h => h) hS0 (.inl ⟨by rfl, by intro w hSw; (try dsimp only at hSw); go_simp⟩) ?_
            simp only [Act.put]
            refine HeadW.take 4 (v := .slice AL k cL) rfl (by kernel_rfl) (by kernel_rfl) (by kernel_rfl) (by decide) (by decide) (fun _ _ _ hL => seqB_ready hL.1) (by kernel_rfl) (by kernel_rfl) (fun _ _ _ h => h) hS0 (.inl ⟨by rfl, by intro w hSw; (try dsimp only at hSw); go_simp⟩) ?_
            simp only [Act.put]
            refine HeadW.take 5 (v := .pointer (some ⟨g, 0, none⟩)) rfl (by kernel_rfl) (by kernel_rfl) (by kernel_rfl) (by decide) (by decide) (fun _ _ _ hL => seqB_ready hL.1) (by kernel_rfl) (by kernel_rfl) (fun _ _ _ h => h) hS0 (.inl ⟨by rfl, by intro w hSw; (try dsimp only at hSw); go_simp⟩) ?_
            simp only [Act.put]
            refine HeadW.one 6 rfl (by decide) (by kernel_rfl) fun K hK => ?_
            go_simp
            refine (rLeft_any g c _ A bs w8.drew (hrd8.drewN 1) hl).mono ?_
            rintro e _ ⟨rfl, m, rfl⟩
            have hzl : a2 ≤ bs.length := hrd8.le
            obtain ⟨lv, hlv⟩ : ∃ lv : Nat, lv = bs.length - a2 := ⟨_, rfl⟩
            rw [← hlv]
            obtain ⟨w9, hw9⟩ : ∃ w9, w9 = w8.drew.drewN m := ⟨_, rfl⟩
            have hO9 : Below w8.heap.size w8 w9 := by rw [hw9]; exact below_drewN (below_drewN (Below.refl _ _) 1) m
            have hz9 : w9.heap.size = w8.heap.size := by rw [hw9]; rfl
            have hS9 : w9.cell? ⟨gs, 2, none⟩ = some (.slice AL k cL) ∧ w9.frozen? ⟨gs, 2, none⟩ = false := by rw [hw9]; exact ⟨s2, f2⟩
            rw [← hw9]
            have Hlv := Lib.hid hlv
            clear hw9 hlv
            refine hK.out _ _ hS9 (fun hHeld => ?_)
            clear hK K hHeld hS0
            refine HeadW.one 7 rfl (by decide) (by kernel_rfl) fun K hK => ?_
            go_simp
            obtain ⟨wc, hwc⟩ : ∃ wc, wc = w9.alloc (.cells #[.int .i64 (lv : Int)] 3) := ⟨_, rfl⟩
            have hOc : Below w9.heap.size w9 wc := by rw [hwc]; exact (Below.refl _ _).alloc (Nat.le_refl _) _
            have hRc : RV wc (some ⟨w9.heap.size, 0, none⟩) [.int .i64 (lv : Int)] := by rw [hwc]; exact RV.of_blk (Blk.new w9 _ #[_])
            have hzc : wc.heap.size = w9.heap.size + 1 := by rw [hwc]; simp
            rw [hz9] at hRc
            have hOc8 : Below w8.heap.size w8 wc := hO9.trans (hOc.mono (by omega))
            have hblkc := hblk8.below hOc8 hgs8
            have hleftc := hleft8.below hOc8 (Nat.le_refl _)
            have hownc := hown8.below hOc8 (Nat.le_refl _)
            have hrdc := hrd8.below hOc8
            rw [← hwc]
            clear hwc
            refine hK.out _ _ ⟨hblkc.cell 2, hblkc.frozen 2⟩ (fun hHeld => ?_)
            clear hK K hHeld
            refine HeadW.one 8 rfl (by decide) (by kernel_rfl) fun K hK => ?_
            refine step_app (by rfl) (.tmp 84) (.tmp 87) eInt (by rfl) (base := w.heap.size) (n := k) (c := cL) (A := AL) (vs := leftG bs ats k) (by rfl) hleftc (A' := some ⟨w8.heap.size, 0, none⟩) (m := 1) (c' := 1) (us := [.int .i64 (lv : Int)]) (by rfl) hRc rfl (fun v hv => by rcases List.mem_singleton.1 hv with rfl; rfl) (by unfold maxLen; omega) (by omega) (by omega) (by simp) ?_
            intro AL2 cL2 w10 hown10 hgrow10 hat10
            have ho10 : Only (fun b => AL.map (·.block) = some b) wc w10 := Only.of_grown hgrow10 fun b e => e
            have hALlt : ∀ b, AL.map (·.block) = some b → w.heap.size ≤ b := fun b h => (Own.row hleft8 b h).1
            have hblk10 := hblkc.only ho10 (hleftc.ne_map hblkc (by decide))
            have hrow10 := hownc.only ho10 (hleftc.ne_map2 hownc (by decide))
            have hown10b : ∀ z ∈ told, Mine w10 w.heap.size z := fun z hz => ((hown8b z hz).below hOc8).only ho10 (hleftc.ne_mine ((hown8b z hz).below hOc8) (by decide))
            have hyo10 : Mine w10 w.heap.size y := (hyo8.below hOc8).only ho10 (hleftc.ne_mine (hyo8.below hOc8) (by decide))
            have hrd10 := hrdc.only ho10 (hleftc.ne_map hrdc.blk (by decide)) fun b o e h => by have := (HA.out b o e).2; have := hALlt b h; omega
            have hOw10 : Only (fun b => b = g ∨ b = gs) w w10 := (hOw8.trans (Only.of_fresh hOc8)).more ho10 fun b hb h => by have := hALlt b h; omega
            refine hK.out _ _ ⟨hblk10.cell 2, hblk10.frozen 2⟩ (fun hHeld => ?_)
            refine fun _ => ⟨by kernel_rfl, ?_⟩
            have f102 := hblk10.frozen 2
            have c102 : w10.cell? ⟨gs, 2, none⟩ = some (.slice AL k cL) := hblk10.cell 2
            have hgs10 := hblk10.lt
            have Hblk10 := Lib.hid hblk10
            have Hown10 := Lib.hid hown10
            have Hrow10 := Lib.hid hrow10
            have Hown10b := Lib.hid hown10b
            have Hyo10 := Lib.hid hyo10
            have Hrd10 := Lib.hid hrd10
            have HOw10 := Lib.hid hOw10
            clear hK K hHeld hblk10 hown10 hrow10 hown10b hyo10 hrd10 hOw10 hgrow10 hat10 ho10 hblkc hleftc hownc hrdc hOc hOc8 hRc hO9 hS9 hblk8 hown8 hleft8 hown8b hyo8 hrd8 hOw8 ho8 s2 f2
            go_wp2_with fail
            refine ⟨⟨k + 1, fun j => if j = k + 1 then a2 else ats j, A2, c2', AL2, cL2, told ++ [y], by omega, by go_num, ⟨?_, ?_, ?_, ?_, ?_, ?_, ?_, ?_⟩, ?_, ?_⟩, by simp [intOf]; omega⟩
            · exact Blk.setL (cs := [.slice (some ⟨pb, poff, none⟩) all.length cW, .slice A2 (k + 1) c2', .slice AL k cL, .pointer (some ⟨g, 0, none⟩)]) Hblk10.out 2 _
            · have h := Hrow10.out.only (S := fun b => b = gs) (w' := w10.setCell ⟨gs, 2, none⟩ (.slice AL2 (k + 1) cL2)) ((Only.refl (fun b => b = gs) w10).setCell (p := ⟨gs, 2, none⟩) (.inl rfl) _) fun b o e h => Hrow10.out.ne_blk Hblk10.out (by decide) b o e h
              rw [List.flatMap_append]
              simpa using h
            · have h := Hown10.out.only (S := fun b => b = gs) (w' := w10.setCell ⟨gs, 2, none⟩ (.slice AL2 (k + 1) cL2)) ((Only.refl (fun b => b = gs) w10).setCell (p := ⟨gs, 2, none⟩) (.inl rfl) _) fun b o e h => Hown10.out.ne_blk Hblk10.out (by decide) b o e h
              have e := leftG_next bs ats k a2
              rw [← Hlv.out] at e
              rw [e]
              exact h
            · rw [List.length_append, HS6.out.len]; rfl
            · exact (if_neg (by omega)).trans HS6.out.zero
            · intro j hj h2
              rcases Nat.lt_or_ge j k with h | h
              · obtain ⟨z, hz, hz2⟩ := HS6.out.step j h h2
                refine ⟨z, by rw [List.getElem?_append_left (by rw [HS6.out.len]; exact h)]; exact hz, ?_⟩
                rw [if_neg (by omega), if_neg (by omega)]
                exact hz2
              · obtain rfl : j = k := by omega
                refine ⟨y, by rw [List.getElem?_append_right (by rw [HS6.out.len]; exact h), HS6.out.len, Nat.sub_self]; rfl, ?_⟩
                rw [if_neg (by omega), if_pos rfl, ← Hxe.out]
                exact Has.out
            · intro z hz
              have hz2 : Mine w10 w.heap.size z := by
                rcases List.mem_append.1 hz with h | h
                · exact Hown10b.out z h
                · rcases List.mem_singleton.1 h with rfl
                  exact Hyo10.out
              exact hz2.only ((Only.refl (fun b => b = gs) w10).setCell (p := ⟨gs, 2, none⟩) (.inl rfl) _) fun b o e h => hz2.ne_blk Hblk10.out (by decide) b o e h
            · intro i j yi yj hij hi
              exact sole_snoc HS6.out.sole Hsole.out hij hi
            · show Rd _ g A c bs (if k + 1 = k + 1 then a2 else ats (k + 1)) false 0
              rw [if_pos rfl]
              exact Hrd10.out.only ((Only.refl (fun b => b = gs) w10).setCell (p := ⟨gs, 2, none⟩) (.inl rfl) _) (fun h => hgs h.symm) fun b o e h => (HA.out b o e).1 h
            · exact HOw10.out.setCell (p := ⟨gs, 2, none⟩) (.inl (.inr rfl)) _
      by_cases h4 : x.kind = 4
      · clear h1 h2 h3
        have q1 : (x.kind == 1) = false := by rw [beq_eq_false_iff_ne]; omega
        have q2 : (x.kind == 2) = false := by rw [beq_eq_false_iff_ne]; omega
        have q3 : (x.kind == 3) = false := by rw [beq_eq_false_iff_ne]; omega
        have g2 : (x.kind == 4) = true := by rw [beq_iff_eq]; exact h4
        have Hkd := Lib.hid h4
        clear h4
        have hc := rBytes_any g c (ats k) A bs wa Hrda.out hl
        cases hr : rBytesL bs (ats k) with
        | error f =>
          rw [hr] at hc
          have hfz : f ≠ 0 := rBytes_err hr
          have Herr := Lib.hid (show Err1 bs (ats k) x f from Err1.bytes (.inl Hkd.out) hr)
          clear hr
          dsimp only at hc
          go_wp2_with fail
          rw [← Hwa.out]
          refine hc.mono ?_
          rintro e w5 ⟨rfl, ⟨at5, hrd5⟩, ho5⟩
          have hO5 : Only (fun b => b = g ∨ b = gs) w w5 := HO.out.trans (((Only.of_fresh Hba.out).trans ho5).mono fun _ _ e => .inl e)
          have HO5 := Lib.hid hO5
          have Hrd5 := Lib.hid hrd5
          clear hO5 hrd5 ho5 hc
          go_wp2_with fail
          exact ⟨rfl, HO5.out, .inr ⟨f, at5, hfz, rfl, Hrd5.out, k, ats, told, hlt, HS.out.zero, HS.out.step, by rw [← Hxe.out]; exact Herr.out⟩⟩
        | ok p =>
          rw [hr] at hc
          obtain ⟨ys, a2⟩ := p
          have Hr := Lib.hid hr
          clear hr
          dsimp only at hc
          go_wp2_with fail
          rw [← Hwa.out]
          refine hc.mono ?_
          rintro e w5 ⟨A5, c5, rfl, hown5, hrd5, ho5⟩
          have hfr5 : ∀ b o, A5 = some ⟨b, o, none⟩ → wr.heap.size ≤ b := fun b o h => by have := (Own.row hown5 b (by rw [h]; rfl)).1; omega
          have hown5b := hown5.mono (base' := w.heap.size) (by have := HO.out.size; omega)
          have Hown5 := Lib.hid hown5b
          have Hfr5 := Lib.hid hfr5
          clear hown5 hown5b hfr5
          have hB5 := HBa.out.only ho5 (by omega)
          have hf5 := hB5.frozen 2
          have hc51 : w5.cell? ⟨wr.heap.size, 2, none⟩ = some (.slice none 0 0) := hB5.cell 2
          have hgi := hB5.lt
          have Hrd5 := Lib.hid hrd5
          have Ho5 := Lib.hid ho5
          have HB5 := Lib.hid hB5
          clear hc hrd5 ho5 hB5
          go_wp2_with fail
          obtain ⟨y, hy⟩ : ∃ y : Item, y = ⟨x.kind, 0, ⟨A5, c5, ys⟩⟩ := ⟨_, rfl⟩
          obtain ⟨w6, hw6⟩ : ∃ w6, w6 = w5.setCell ⟨wr.heap.size, 2, none⟩ (.slice A5 ys.length c5) := ⟨_, rfl⟩
          have hB6 : Blk w6 wr.heap.size 30 (itemCells y).toArray := by rw [hw6, hy]; exact Blk.setL (cs := [.int .i64 x.kind, .int .i64 0, .slice none 0 0]) HB5.out 2 _
          have ho6 : Only (fun b => b = g) wr w6 := by rw [hw6]; exact (((Only.of_fresh Hba.out).trans Ho5.out).setCell (p := ⟨wr.heap.size, 2, none⟩) (.inr (Nat.le_refl _)) _)
          have hrd6 : Rd w6 g A c bs a2 false 0 := by
            rw [hw6]
            exact Hrd5.out.only ((Only.refl (fun b => b = wr.heap.size) w5).setCell (p := ⟨wr.heap.size, 2, none⟩) (.inl rfl) _) (by omega) fun b o e => by have := (HA.out b o e).2; have := HO.out.size; omega
          have has : Step bs (ats k) x y a2 := by
            rw [hy]
            exact ⟨rfl, Hrd5.out.le, Step1.bytes (.inl Hkd.out) Hr.out⟩
          have hyo : Mine w6 w.heap.size y := by
            rw [hy, hw6]
            exact (Mine.of_own Hown5.out).only ((Only.refl (fun b => b = wr.heap.size) w5).setCell (p := ⟨wr.heap.size, 2, none⟩) (.inl rfl) _) fun b o e h => (Mine.of_own (k := x.kind) (n := 0) Hown5.out).ne_blk HB5.out (by decide) b o e h
          have hyf : ∀ b o, y.p.A = some ⟨b, o, none⟩ → wr.heap.size ≤ b := by
            rw [hy]
            exact Hfr5.out
          have hS6 := HS.out.onto Hrd2.out.blk ho6 hgs
          have c0 : w6.cell? ⟨wr.heap.size, 0, none⟩ = some (.int .i64 y.kind) := hB6.cell 0
          have c1 : w6.cell? ⟨wr.heap.size, 1, none⟩ = some (.int .i64 y.n) := hB6.cell 1
          have c2 : w6.cell? ⟨wr.heap.size, 2, none⟩ = some (.slice y.p.A y.p.ys.length y.p.c) := hB6.cell 2
          rw [← hw6]
          have hsole : ∀ z ∈ told, ∀ b o o', z.p.A = some ⟨b, o, none⟩ → y.p.A ≠ some ⟨b, o', none⟩ := fun z hz b o o' h1 h2 => by
            have e1 := (HS.out.own z hz).lt b o h1
            have e2 := hyf b o' h2
            omega
          have Hsole := Lib.hid hsole
          clear hsole hyf
          have hgi6 := hB6.lt
          have HB6 := Lib.hid hB6
          have HO6 := Lib.hid (HO.out.trans (ho6.mono fun _ _ e => .inl e))
          have Hrd6 := Lib.hid hrd6
          have Has := Lib.hid has
          have Hyo := Lib.hid hyo
          have HS6 := Lib.hid hS6
          clear hw6 hB6 ho6 hrd6 has hyo hS6 HB5 Ho5 Hrd5 hf5 hc51 hy HBa Hrda Hwa HS Hrd2 HO s0 ck cp hgi
          have s1 : w6.cell? ⟨gs, 1, none⟩ = some (.slice AT k cT) := HS6.out.blk.cell 1
          have f1 := HS6.out.blk.frozen 1
          have hgs6 := HS6.out.blk.lt
          have hb6 : w.heap.size ≤ w6.heap.size := HO6.out.size
          have hfa : ∀ o, ((w6.alloc o).drew).frozen? ⟨gs, 1, none⟩ = false := fun o => by rw [(ocell (((Only.refl (fun _ => False) w6).alloc o).drew)).2 gs 1 hgs6 (fun h => h)]; exact f1
          refine region_heldT 8 (fun w' => w'.cell? ⟨gs, 1, none⟩ = some (.slice AT k cT) ∧ w'.frozen? ⟨gs, 1, none⟩ = false ∧ w'.cell? ⟨wr.heap.size, 0, none⟩ = some (.int .i64 y.kind) ∧ w'.cell? ⟨wr.heap.size, 1, none⟩ = some (.int .i64 y.n) ∧ w'.cell? ⟨wr.heap.size, 2, none⟩ = some (.slice y.p.A y.p.ys.length y.p.c)) (by kernel_rfl) (by decide) ?_
          have hS0 : (fun w' : World => w'.cell? ⟨gs, 1, none⟩ = some (.slice AT k cT) ∧ w'.frozen? ⟨gs, 1, none⟩ = false ∧ w'.cell? ⟨wr.heap.size, 0, none⟩ = some (.int .i64 y.kind) ∧ w'.cell? ⟨wr.heap.size, 1, none⟩ = some (.int .i64 y.n) ∧ w'.cell? ⟨wr.heap.size, 2, none⟩ = some (.slice y.p.A y.p.ys.length y.p.c)) w6.drew := ⟨s1, f1, c0, c1, c2⟩
          refine HeadW.take 0 (v := .pointer (some ⟨gs, 0, none⟩)) rfl (by kernel_rfl) (by kernel_rfl) (by kernel_rfl) (by decide) (by decide) (fun _ _ _ hL => seqB_ready hL.1) (by kernel_rfl) (by kernel_rfl) (fun _ _ _ h => h) hS0 (.inl ⟨by rfl, by intro w hSw; (try dsimp only at hSw); go_simp⟩) ?_
          simp only [Act.put, List.setIfInBounds_toArray]
          refine HeadW.take 1 (v := .pointer (some ⟨gs, 0, none⟩)) rfl (by kernel_rfl) (by kernel_rfl) (by kernel_rfl) (by decide) (by decide) (fun _ _ _ hL => seqB_ready hL.1) (by kernel_rfl) (by kernel_rfl) (fun _ _ _ h => h) hS0 (.inl ⟨by rfl, by intro w hSw; (try dsimp only at hSw); go_simp⟩) ?_
          simp only [Act.put]
          refine HeadW.take 2 (v := .pointer (some ⟨gs, 0, none⟩)) rfl (by kernel_rfl) (by kernel_rfl) (by kernel_rfl) (by decide) (by decide) (fun _ _ _ hL => seqB_ready hL.1) (by kernel_rfl) (by kernel_rfl) (fun _ _ _ h => h) hS0 (.inl ⟨by rfl, by intro w hSw; (try dsimp only at hSw); go_simp⟩) ?_
          simp only [Act.put]
          refine HeadW.take 3 (v := .pointer (some ⟨gs, 1, none⟩)) rfl (by kernel_rfl) (by kernel_rfl) (by kernel_rfl) (by decide) (by decide) (fun _ _ _ hL => seqB_ready hL.1) (by kernel_rfl) (by kernel_rfl) (fun _ _ _ h => h) hS0 (.inl ⟨by rfl, by intro w hSw; (try dsimp only at hSw); go_simp⟩) ?_
          simp only [Act.put]
          refine HeadW.take 4 (v := .slice AT k cT) rfl (by kernel_rfl) (by kernel_rfl) (by kernel_rfl) (by decide) (by decide) (fun _ _ _ hL => seqB_ready hL.1) (by kernel_rfl) (by kernel_rfl) (fun _ _ _ h => h) hS0 (.inl ⟨by rfl, by intro w hSw; (try dsimp only at hSw); go_simp⟩) ?_
          simp only [Act.put]
          refine HeadW.take 5 (v := .agg #[.int .i64 y.kind, .int .i64 y.n, .slice y.p.A y.p.ys.length y.p.c]) rfl (by kernel_rfl) (by kernel_rfl) (by kernel_rfl) (by decide) (by decide) (fun _ _ _ hL => seqB_ready hL.1) (by kernel_rfl) (by kernel_rfl) (fun _ _ _ h => h) hS0 (.inl ⟨by rfl, by intro w hSw; (try dsimp only at hSw); go_simp⟩) ?_
          simp only [Act.put]
          refine HeadW.one 6 rfl (by decide) (by kernel_rfl) fun K hK => ?_
          go_simp
          obtain ⟨wb, hwb⟩ : ∃ wb, wb = (w6.alloc (.cells #[.int .i64 y.kind, .int .i64 y.n, .slice y.p.A y.p.ys.length y.p.c] 30)).drew := ⟨_, rfl⟩
          have hOb : Below w6.heap.size w6 wb := by rw [hwb]; exact below_drewN ((Below.refl _ _).alloc (Nat.le_refl _) _) 1
          have hRb : RV wb (some ⟨w6.heap.size, 0, none⟩) (itemCells y) := by rw [hwb]; exact (RV.of_blk (Blk.new w6 _ #[_, _, _])).drew
          have hfb : wb.frozen? ⟨gs, 1, none⟩ = false := by rw [hwb]; exact hfa _
          have hzb : wb.heap.size = w6.heap.size + 1 := by rw [hwb]; simp
          have hSb := HS6.out.below hOb
          have hrdb := Hrd6.out.below hOb
          rw [← hwb]
          refine hK.out _ _ ⟨hSb.blk.cell 1, hfb, by rw [(bcell hOb).1 _ _ hgi6]; exact c0, by rw [(bcell hOb).1 _ _ hgi6]; exact c1, by rw [(bcell hOb).1 _ _ hgi6]; exact c2⟩ (fun hHeld => ?_)
          clear hK K hfa hS0 hwb s1 f1
          refine HeadW.one 7 rfl (by decide) (by kernel_rfl) fun K hK => ?_
          refine step_app (by rfl) (.tmp 74) (.tmp 76) eItem (by rfl) (base := w.heap.size) (n := k) (c := cT) (A := AT) (vs := told.flatMap itemCells) (by rfl) hSb.rowT (A' := some ⟨w6.heap.size, 0, none⟩) (m := 1) (c' := 1) (us := itemCells y) (by rfl) hRb rfl (items_one [y]) (by unfold maxLen; omega) (by omega) (by omega) (by simp) ?_
          intro A2 c2' w7 hown7 hgrow7 hat7
          have ho7 : Only (fun b => AT.map (·.block) = some b) wb w7 := Only.of_grown hgrow7 fun b e => e
          have hblk7 := hSb.blk.only ho7 (hSb.rowT.ne_map hSb.blk (by decide))
          have hleft7 := hSb.left.only ho7 (hSb.rowT.ne_map2 hSb.left (by decide))
          have hown7b : ∀ z ∈ told, Mine w7 w.heap.size z := fun z hz => (hSb.own z hz).only ho7 (hSb.rowT.ne_mine (hSb.own z hz) (by decide))
          have hyo7 : Mine w7 w.heap.size y := (Hyo.out.below hOb).only ho7 (hSb.rowT.ne_mine (Hyo.out.below hOb) (by decide))
          have hrd7 := hrdb.only ho7 (hSb.rowT.ne_map hrdb.blk (by decide)) fun b o e h => by have := (HA.out b o e).2; have := (HATlt.out b h).1; omega
          have hOw7 : Only (fun b => b = g ∨ b = gs) w w7 := (HO6.out.trans (Only.of_fresh hOb)).more ho7 fun b hb h => by have := (HATlt.out b h).1; omega
          have hgi7 : w7.cell? ⟨wr.heap.size, 0, none⟩ = some (.int .i64 y.kind) ∧ w7.cell? ⟨wr.heap.size, 1, none⟩ = some (.int .i64 y.n) ∧ w7.cell? ⟨wr.heap.size, 2, none⟩ = some (.slice y.p.A y.p.ys.length y.p.c) := by
            have hni : ¬ (AT.map (·.block) = some wr.heap.size) := fun h => by have := (HATlt.out _ h).2; omega
            refine ⟨?_, ?_, ?_⟩ <;> rw [(ocell ho7).1 _ _ (by omega) hni, (bcell hOb).1 _ _ hgi6] <;> assumption
          refine hK.out _ _ ⟨hblk7.cell 1, hblk7.frozen 1, hgi7⟩ (fun hHeld => ?_)
          refine fun _ => ⟨by kernel_rfl, ?_⟩
          have f71 := hblk7.frozen 1
          have c71 : w7.cell? ⟨gs, 1, none⟩ = some (.slice AT k cT) := hblk7.cell 1
          have hgs7 := hblk7.lt
          have Hblk7 := Lib.hid hblk7
          have Hown7 := Lib.hid hown7
          have Hleft7 := Lib.hid hleft7
          have Hown7b := Lib.hid hown7b
          have Hyo7 := Lib.hid hyo7
          have Hrd7 := Lib.hid hrd7
          have HOw7 := Lib.hid hOw7
          clear hK K hHeld hblk7 hown7 hleft7 hown7b hyo7 hrd7 hOw7 hgi7 hgrow7 hat7 ho7 hSb hrdb hOb hRb hfb hzb c0 c1 c2 Hba
          go_wp2_with fail
          obtain ⟨w8, hw8⟩ : ∃ w8, w8 = w7.setCell ⟨gs, 1, none⟩ (.slice A2 (k + 1) c2') := ⟨_, rfl⟩
          rw [← hw8]
          have ho8 : Only (fun b => b = gs) w7 w8 := by rw [hw8]; exact (Only.refl (fun b => b = gs) w7).setCell (p := ⟨gs, 1, none⟩) (.inl rfl) _
          have hblk8 : Blk w8 gs 83 #[.slice (some ⟨pb, poff, none⟩) all.length cW, .slice A2 (k + 1) c2', .slice AL k cL, .pointer (some ⟨g, 0, none⟩)] := by
            rw [hw8]; exact Blk.setL (cs := [.slice (some ⟨pb, poff, none⟩) all.length cW, .slice AT k cT, .slice AL k cL, .pointer (some ⟨g, 0, none⟩)]) Hblk7.out 1 _
          clear hw8
          have hown8 := Hown7.out.only ho8 fun b o e h => Hown7.out.ne_blk Hblk7.out (by decide) b o e h
          have hleft8 := Hleft7.out.only ho8 fun b o e h => Hleft7.out.ne_blk Hblk7.out (by decide) b o e h
          have hown8b : ∀ z ∈ told, Mine w8 w.heap.size z := fun z hz => (Hown7b.out z hz).only ho8 fun b o e h => (Hown7b.out z hz).ne_blk Hblk7.out (by decide) b o e h
          have hyo8 := Hyo7.out.only ho8 fun b o e h => Hyo7.out.ne_blk Hblk7.out (by decide) b o e h
          have hrd8 := Hrd7.out.only ho8 (fun h => hgs h.symm) fun b o e h => (HA.out b o e).1 h
          have hOw8 : Only (fun b => b = g ∨ b = gs) w w8 := HOw7.out.trans (ho8.mono fun _ _ e => .inr e)
          have s2 : w8.cell? ⟨gs, 2, none⟩ = some (.slice AL k cL) := hblk8.cell 2
          have f2 := hblk8.frozen 2
          have hgs8 := hblk8.lt
          have hb8 : w.heap.size ≤ w8.heap.size := hOw8.size
          have hS0 : (fun w' : World => w'.cell? ⟨gs, 2, none⟩ = some (.slice AL k cL) ∧ w'.frozen? ⟨gs, 2, none⟩ = false) w8.drew := ⟨s2, f2⟩
          refine region_heldT 9 (fun w' => w'.cell? ⟨gs, 2, none⟩ = some (.slice AL k cL) ∧ w'.frozen? ⟨gs, 2, none⟩ = false) (by kernel_rfl) (by decide) ?_
          refine HeadW.take 0 (v := .pointer (some ⟨gs, 0, none⟩)) rfl (by kernel_rfl) (by kernel_rfl) (by kernel_rfl) (by decide) (by decide) (fun _ _ _ hL => seqB_ready hL.1) (by kernel_rfl) (by kernel_rfl) (fun _ _ _ h => h) hS0 (.inl ⟨by rfl, by intro w hSw; (try dsimp only at hSw); go_simp⟩) ?_
          simp only [Act.put, List.setIfInBounds_toArray]
          refine HeadW.take 1 (v := .pointer (some ⟨gs, 0, none⟩)) rfl (by kernel_rfl) (by kernel_rfl) (by kernel_rfl) (by decide) (by decide) (fun _ _ _ hL => seqB_ready hL.1) (by kernel_rfl) (by kernel_rfl) (fun _ _ _ h => h) hS0 (.inl ⟨by rfl, by intro w hSw; (try dsimp only at hSw); go_simp⟩) ?_
          simp only [Act.put]
          refine HeadW.take 2 (v := .pointer (some ⟨gs, 0, none⟩)) rfl (by kernel_rfl) (by kernel_rfl) (by kernel_rfl) (by decide) (by decide) (fun _ _ _ hL => seqB_ready hL.1) (by kernel_rfl) (by kernel_rfl) (fun _ _ _ h => h) hS0 (.inl ⟨by rfl, by intro w hSw; (try dsimp only at hSw); go_simp⟩) ?_
          simp only [Act.put]
          refine HeadW.take 3 (v := .pointer (some ⟨gs, 2, none⟩)) rfl (by kernel_rfl) (by kernel_rfl) (by kernel_rfl) (by decide) (by decide) (fun _ _ _ hL => seqB_ready hL.1) (by kernel_rfl) (by kernel_rfl) (fun _ _ _ h => h) hS0 (.inl ⟨by rfl, by intro w hSw; (try dsimp only at hSw); go_simp⟩) ?_
          simp only [Act.put]
          refine HeadW.take 4 (v := .slice AL k cL) rfl (by kernel_rfl) (by kernel_rfl) (by kernel_rfl) (by decide) (by decide) (fun _ _ _ hL => seqB_ready hL.1) (by kernel_rfl) (by kernel_rfl) (fun _ _ _ h => h) hS0 (.inl ⟨by rfl, by intro w hSw; (try dsimp only at hSw); go_simp⟩) ?_
          simp only [Act.put]
          refine HeadW.take 5 (v := .pointer (some ⟨g, 0, none⟩)) rfl (by kernel_rfl) (by kernel_rfl) (by kernel_rfl) (by decide) (by decide) (fun _ _ _ hL => seqB_ready hL.1) (by kernel_rfl) (by kernel_rfl) (fun _ _ _ h => h) hS0 (.inl ⟨by rfl, by intro w hSw; (try dsimp only at hSw); go_simp⟩) ?_
          simp only [Act.put]
          refine HeadW.one 6 rfl (by decide) (by kernel_rfl) fun K hK => ?_
          go_simp
          refine (rLeft_any g c _ A bs w8.drew (hrd8.drewN 1) hl).mono ?_
          rintro e _ ⟨rfl, m, rfl⟩
          have hzl : a2 ≤ bs.length := hrd8.le
          obtain ⟨lv, hlv⟩ : ∃ lv : Nat, lv = bs.length - a2 := ⟨_, rfl⟩
          rw [← hlv]
          obtain ⟨w9, hw9⟩ : ∃ w9, w9 = w8.drew.drewN m := ⟨_, rfl⟩
          have hO9 : Below w8.heap.size w8 w9 := by rw [hw9]; exact below_drewN (below_drewN (Below.refl _ _) 1) m
          have hz9 : w9.heap.size = w8.heap.size := by rw [hw9]; rfl
          have hS9 : w9.cell? ⟨gs, 2, none⟩ = some (.slice AL k cL) ∧ w9.frozen? ⟨gs, 2, none⟩ = false := by rw [hw9]; exact ⟨s2, f2⟩
          rw [← hw9]
          have Hlv := Lib.hid hlv
          clear hw9 hlv
          refine hK.out _ _ hS9 (fun hHeld => ?_)
          clear hK K hHeld hS0
          refine HeadW.one 7 rfl (by decide) (by kernel_rfl) fun K hK => ?_
          go_simp
          obtain ⟨wc, hwc⟩ : ∃ wc, wc = w9.alloc (.cells #[.int .i64 (lv : Int)] 3) := ⟨_, rfl⟩
          have hOc : Below w9.heap.size w9 wc := by rw [hwc]; exact (Below.refl _ _).alloc (Nat.le_refl _) _
          have hRc : RV wc (some ⟨w9.heap.size, 0, none⟩) [.int .i64 (lv : Int)] := by rw [hwc]; exact RV.of_blk (Blk.new w9 _ #[_])
          have hzc : wc.heap.size = w9.heap.size + 1 := by rw [hwc]; simp
          rw [hz9] at hRc
          have hOc8 : Below w8.heap.size w8 wc := hO9.trans (hOc.mono (by omega))
          have hblkc := hblk8.below hOc8 hgs8
          have hleftc := hleft8.below hOc8 (Nat.le_refl _)
          have hownc := hown8.below hOc8 (Nat.le_refl _)
          have hrdc := hrd8.below hOc8
          rw [← hwc]
          clear hwc
          refine hK.out _ _ ⟨hblkc.cell 2, hblkc.frozen 2⟩ (fun hHeld => ?_)
          clear hK K hHeld
          refine HeadW.one 8 rfl (by decide) (by kernel_rfl) fun K hK => ?_
          refine step_app (by rfl) (.tmp 84) (.tmp 87) eInt (by rfl) (base := w.heap.size) (n := k) (c := cL) (A := AL) (vs := leftG bs ats k) (by rfl) hleftc (A' := some ⟨w8.heap.size, 0, none⟩) (m := 1) (c' := 1) (us := [.int .i64 (lv : Int)]) (by rfl) hRc rfl (fun v hv => by rcases List.mem_singleton.1 hv with rfl; rfl) (by unfold maxLen; omega) (by omega) (by omega) (by simp) ?_
          intro AL2 cL2 w10 hown10 hgrow10 hat10
          have ho10 : Only (fun b => AL.map (·.block) = some b) wc w10 := Only.of_grown hgrow10 fun b e => e
          have hALlt : ∀ b, AL.map (·.block) = some b → w.heap.size ≤ b := fun b h => (Own.row hleft8 b h).1
          have hblk10 := hblkc.only ho10 (hleftc.ne_map hblkc (by decide))
          have hrow10 := hownc.only ho10 (hleftc.ne_map2 hownc (by decide))
          have hown10b : ∀ z ∈ told, Mine w10 w.heap.size z := fun z hz => ((hown8b z hz).below hOc8).only ho10 (hleftc.ne_mine ((hown8b z hz).below hOc8) (by decide))
          have hyo10 : Mine w10 w.heap.size y := (hyo8.below hOc8).only ho10 (hleftc.ne_mine (hyo8.below hOc8) (by decide))
          have hrd10 := hrdc.only ho10 (hleftc.ne_map hrdc.blk (by decide)) fun b o e h => by have := (HA.out b o e).2; have := hALlt b h; omega
          have hOw10 : Only (fun b => b = g ∨ b = gs) w w10 := (hOw8.trans (Only.of_fresh hOc8)).more ho10 fun b hb h => by have := hALlt b h; omega
          refine hK.out _ _ ⟨hblk10.cell 2, hblk10.frozen 2⟩ (fun hHeld => ?_)
          refine fun _ => ⟨by kernel_rfl, ?_⟩
          have f102 := hblk10.frozen 2
          have c102 : w10.cell? ⟨gs, 2, none⟩ = some (.slice AL k cL) := hblk10.cell 2
          have hgs10 := hblk10.lt
          have Hblk10 := Lib.hid hblk10
          have Hown10 := Lib.hid hown10
          have Hrow10 := Lib.hid hrow10
          have Hown10b := Lib.hid hown10b
          have Hyo10 := Lib.hid hyo10
          have Hrd10 := Lib.hid hrd10
          have HOw10 := Lib.hid hOw10
          clear hK K hHeld hblk10 hown10 hrow10 hown10b hyo10 hrd10 hOw10 hgrow10 hat10 ho10 hblkc hleftc hownc hrdc hOc hOc8 hRc hO9 hS9 hblk8 hown8 hleft8 hown8b hyo8 hrd8 hOw8 ho8 s2 f2
          go_wp2_with fail
          refine ⟨⟨k + 1, fun j => if j = k + 1 then a2 else ats j, A2, c2', AL2, cL2, told ++ [y], by omega, by go_num, ⟨?_, ?_, ?_, ?_, ?_, ?_, ?_, ?_⟩, ?_, ?_⟩, by simp [intOf]; omega⟩
          · exact Blk.setL (cs := [.slice (some ⟨pb, poff, none⟩) all.length cW, .slice A2 (k + 1) c2', .slice AL k cL, .pointer (some ⟨g, 0, none⟩)]) Hblk10.out 2 _
          · have h := Hrow10.out.only (S := fun b => b = gs) (w' := w10.setCell ⟨gs, 2, none⟩ (.slice AL2 (k + 1) cL2)) ((Only.refl (fun b => b = gs) w10).setCell (p := ⟨gs, 2, none⟩) (.inl rfl) _) fun b o e h => Hrow10.out.ne_blk Hblk10.out (by decide) b o e h
            rw [List.flatMap_append]
            simpa using h
          · have h := Hown10.out.only (S := fun b => b = gs) (w' := w10.setCell ⟨gs, 2, none⟩ (.slice AL2 (k + 1) cL2)) ((Only.refl (fun b => b = gs) w10).setCell (p := ⟨gs, 2, none⟩) (.inl rfl) _) fun b o e h => Hown10.out.ne_blk Hblk10.out (by decide) b o e h
            have e := leftG_next bs ats k a2
            rw [← Hlv.out] at e
            rw [e]
            exact h
          · rw [List.length_append, HS6.out.len]; rfl
          · exact (if_neg (by omega)).trans HS6.out.zero
          · intro j hj h2
            rcases Nat.lt_or_ge j k with h | h
            · obtain ⟨z, hz, hz2⟩ := HS6.out.step j h h2
              refine ⟨z, by rw [List.getElem?_append_left (by rw [HS6.out.len]; exact h)]; exact hz, ?_⟩
              rw [if_neg (by omega), if_neg (by omega)]
              exact hz2
            · obtain rfl : j = k := by omega
              refine ⟨y, by rw [List.getElem?_append_right (by rw [HS6.out.len]; exact h), HS6.out.len, Nat.sub_self]; rfl, ?_⟩
              rw [if_neg (by omega), if_pos rfl, ← Hxe.out]
              exact Has.out
          · intro z hz
            have hz2 : Mine w10 w.heap.size z := by
              rcases List.mem_append.1 hz with h | h
              · exact Hown10b.out z h
              · rcases List.mem_singleton.1 h with rfl
                exact Hyo10.out
            exact hz2.only ((Only.refl (fun b => b = gs) w10).setCell (p := ⟨gs, 2, none⟩) (.inl rfl) _) fun b o e h => hz2.ne_blk Hblk10.out (by decide) b o e h
          · intro i j yi yj hij hi
            exact sole_snoc HS6.out.sole Hsole.out hij hi
          · show Rd _ g A c bs (if k + 1 = k + 1 then a2 else ats (k + 1)) false 0
            rw [if_pos rfl]
            exact Hrd10.out.only ((Only.refl (fun b => b = gs) w10).setCell (p := ⟨gs, 2, none⟩) (.inl rfl) _) (fun h => hgs h.symm) fun b o e h => (HA.out b o e).1 h
          · exact HOw10.out.setCell (p := ⟨gs, 2, none⟩) (.inl (.inr rfl)) _
      by_cases h5 : x.kind = 5
      · clear h1 h2 h3 h4
        have q1 : (x.kind == 1) = false := by rw [beq_eq_false_iff_ne]; omega
        have q2 : (x.kind == 2) = false := by rw [beq_eq_false_iff_ne]; omega
        have q3 : (x.kind == 3) = false := by rw [beq_eq_false_iff_ne]; omega
        have q4 : (x.kind == 4) = false := by rw [beq_eq_false_iff_ne]; omega
        have g2 : (x.kind == 5) = true := by rw [beq_iff_eq]; exact h5
        have Hkd := Lib.hid h5
        clear h5
        have hc := rText_any g c (ats k) A bs wa Hrda.out hl
        cases hr : rBytesL bs (ats k) with
        | error f =>
          rw [hr] at hc
          have hfz : f ≠ 0 := rBytes_err hr
          have Herr := Lib.hid (show Err1 bs (ats k) x f from Err1.bytes (.inr Hkd.out) hr)
          clear hr
          dsimp only at hc
          go_wp2_with fail
          rw [← Hwa.out]
          refine hc.mono ?_
          rintro e w5 ⟨rfl, ⟨at5, hrd5⟩, ho5⟩
          have hO5 : Only (fun b => b = g ∨ b = gs) w w5 := HO.out.trans (((Only.of_fresh Hba.out).trans ho5).mono fun _ _ e => .inl e)
          have HO5 := Lib.hid hO5
          have Hrd5 := Lib.hid hrd5
          clear hO5 hrd5 ho5 hc
          go_wp2_with fail
          exact ⟨rfl, HO5.out, .inr ⟨f, at5, hfz, rfl, Hrd5.out, k, ats, told, hlt, HS.out.zero, HS.out.step, by rw [← Hxe.out]; exact Herr.out⟩⟩
        | ok p =>
          rw [hr] at hc
          obtain ⟨ys, a2⟩ := p
          have Hr := Lib.hid hr
          clear hr
          dsimp only at hc
          go_wp2_with fail
          rw [← Hwa.out]
          refine hc.mono ?_
          rintro e w4 ⟨rfl, hrd4, ho4⟩
          have hB4 := HBa.out.only ho4 (by omega)
          have hz4 := ho4.size
          go_wp2_with (refine wpList_at 54 rfl ?_; refine wp_stop ?_)
          refine ⟨?_⟩
          refine wpList_strBytes2 rfl (.tmp 53) ⟨ys.toArray⟩ rfl rfl Try.underlying9 Try.underlying22 Try.underlying5 ?_
          intro c5 w5 hrv5 hb5 hz5 hcs5
          have ho5 : Only (fun b => b = g) wa w5 := ho4.trans (Only.of_fresh hb5)
          have hrd5 := hrd4.below hb5
          have hheld5 : Held w5 w.heap.size ⟨some ⟨w4.heap.size, 0, none⟩, c5, ys⟩ := ⟨hrv5, fun b o e => by
            cases e
            exact ⟨by have := HO.out.size; omega, by omega, hcs5⟩, fun h => by cases h⟩
          have Hheld5 := Lib.hid hheld5
          clear hrd4 ho4 hB4 hrv5 hb5 hcs5 hheld5
          have hB5 := HBa.out.only ho5 (by omega)
          have hf5 := hB5.frozen 2
          have hc51 : w5.cell? ⟨wr.heap.size, 2, none⟩ = some (.slice none 0 0) := hB5.cell 2
          have hgi := hB5.lt
          have Hrd5 := Lib.hid hrd5
          have Ho5 := Lib.hid ho5
          have HB5 := Lib.hid hB5
          clear hc hrd5 ho5 hB5
          go_wp2_with fail
          obtain ⟨y, hy⟩ : ∃ y : Item, y = ⟨x.kind, 0, ⟨some ⟨w4.heap.size, 0, none⟩, c5, ys⟩⟩ := ⟨_, rfl⟩
          obtain ⟨w6, hw6⟩ : ∃ w6, w6 = w5.setCell ⟨wr.heap.size, 2, none⟩ (.slice (some ⟨w4.heap.size, 0, none⟩) ys.length c5) := ⟨_, rfl⟩
          have hB6 : Blk w6 wr.heap.size 30 (itemCells y).toArray := by rw [hw6, hy]; exact Blk.setL (cs := [.int .i64 x.kind, .int .i64 0, .slice none 0 0]) HB5.out 2 _
          have ho6 : Only (fun b => b = g) wr w6 := by rw [hw6]; exact (((Only.of_fresh Hba.out).trans Ho5.out).setCell (p := ⟨wr.heap.size, 2, none⟩) (.inr (Nat.le_refl _)) _)
          have hrd6 : Rd w6 g A c bs a2 false 0 := by
            rw [hw6]
            exact Hrd5.out.only ((Only.refl (fun b => b = wr.heap.size) w5).setCell (p := ⟨wr.heap.size, 2, none⟩) (.inl rfl) _) (by omega) fun b o e => by have := (HA.out b o e).2; have := HO.out.size; omega
          have has : Step bs (ats k) x y a2 := by
            rw [hy]
            exact ⟨rfl, Hrd5.out.le, Step1.bytes (.inr Hkd.out) Hr.out⟩
          have hyo : Mine w6 w.heap.size y := by
            rw [hy, hw6]
            exact (Mine.of_held (n := 0) Hheld5.out Hkd.out).only ((Only.refl (fun b => b = wr.heap.size) w5).setCell (p := ⟨wr.heap.size, 2, none⟩) (.inl rfl) _) fun b o e h => (Mine.of_held (n := 0) Hheld5.out Hkd.out).ne_blk HB5.out (by decide) b o e h
          have hyf : ∀ b o, y.p.A = some ⟨b, o, none⟩ → wr.heap.size ≤ b := by
            rw [hy]
            exact fun b o h => by
              have h1 := Option.some.inj h
              have e : w4.heap.size = b := congrArg Addr.block h1
              omega
          have hS6 := HS.out.onto Hrd2.out.blk ho6 hgs
          have c0 : w6.cell? ⟨wr.heap.size, 0, none⟩ = some (.int .i64 y.kind) := hB6.cell 0
          have c1 : w6.cell? ⟨wr.heap.size, 1, none⟩ = some (.int .i64 y.n) := hB6.cell 1
          have c2 : w6.cell? ⟨wr.heap.size, 2, none⟩ = some (.slice y.p.A y.p.ys.length y.p.c) := hB6.cell 2
          rw [← hw6]
          have hsole : ∀ z ∈ told, ∀ b o o', z.p.A = some ⟨b, o, none⟩ → y.p.A ≠ some ⟨b, o', none⟩ := fun z hz b o o' h1 h2 => by
            have e1 := (HS.out.own z hz).lt b o h1
            have e2 := hyf b o' h2
            omega
          have Hsole := Lib.hid hsole
          clear hsole hyf
          have hgi6 := hB6.lt
          have HB6 := Lib.hid hB6
          have HO6 := Lib.hid (HO.out.trans (ho6.mono fun _ _ e => .inl e))
          have Hrd6 := Lib.hid hrd6
          have Has := Lib.hid has
          have Hyo := Lib.hid hyo
          have HS6 := Lib.hid hS6
          clear hw6 hB6 ho6 hrd6 has hyo hS6 HB5 Ho5 Hrd5 hf5 hc51 hy HBa Hrda Hwa HS Hrd2 HO s0 ck cp hgi
          have s1 : w6.cell? ⟨gs, 1, none⟩ = some (.slice AT k cT) := HS6.out.blk.cell 1
          have f1 := HS6.out.blk.frozen 1
          have hgs6 := HS6.out.blk.lt
          have hb6 : w.heap.size ≤ w6.heap.size := HO6.out.size
          have hfa : ∀ o, ((w6.alloc o).drew).frozen? ⟨gs, 1, none⟩ = false := fun o => by rw [(ocell (((Only.refl (fun _ => False) w6).alloc o).drew)).2 gs 1 hgs6 (fun h => h)]; exact f1
          refine region_heldT 8 (fun w' => w'.cell? ⟨gs, 1, none⟩ = some (.slice AT k cT) ∧ w'.frozen? ⟨gs, 1, none⟩ = false ∧ w'.cell? ⟨wr.heap.size, 0, none⟩ = some (.int .i64 y.kind) ∧ w'.cell? ⟨wr.heap.size, 1, none⟩ = some (.int .i64 y.n) ∧ w'.cell? ⟨wr.heap.size, 2, none⟩ = some (.slice y.p.A y.p.ys.length y.p.c)) (by kernel_rfl) (by decide) ?_
          have hS0 : (fun w' : World => w'.cell? ⟨gs, 1, none⟩ = some (.slice AT k cT) ∧ w'.frozen? ⟨gs, 1, none⟩ = false ∧ w'.cell? ⟨wr.heap.size, 0, none⟩ = some (.int .i64 y.kind) ∧ w'.cell? ⟨wr.heap.size, 1, none⟩ = some (.int .i64 y.n) ∧ w'.cell? ⟨wr.heap.size, 2, none⟩ = some (.slice y.p.A y.p.ys.length y.p.c)) w6.drew := ⟨s1, f1, c0, c1, c2⟩
          refine HeadW.take 0 (v := .pointer (some ⟨gs, 0, none⟩)) rfl (by kernel_rfl) (by kernel_rfl) (by kernel_rfl) (by decide) (by decide) (fun _ _ _ hL => seqB_ready hL.1) (by kernel_rfl) (by kernel_rfl) (fun _ _ _ h => h) hS0 (.inl ⟨by rfl, by intro w hSw; (try dsimp only at hSw); go_simp⟩) ?_
          simp only [Act.put, List.setIfInBounds_toArray]
          refine HeadW.take 1 (v := .pointer (some ⟨gs, 0, none⟩)) rfl (by kernel_rfl) (by kernel_rfl) (by kernel_rfl) (by decide) (by decide) (fun _ _ _ hL => seqB_ready hL.1) (by kernel_rfl) (by kernel_rfl) (fun _ _ _ h => h) hS0 (.inl ⟨by rfl, by intro w hSw; (try dsimp only at hSw); go_simp⟩) ?_
          simp only [Act.put]
          refine HeadW.take 2 (v := .pointer (some ⟨gs, 0, none⟩)) rfl (by kernel_rfl) (by kernel_rfl) (by kernel_rfl) (by decide) (by decide) (fun _ _ _ hL => seqB_ready hL.1) (by kernel_rfl) (by kernel_rfl) (fun _ _ _ h => h) hS0 (.inl ⟨by rfl, by intro w hSw; (try dsimp only at hSw); go_simp⟩) ?_
          simp only [Act.put]
          refine HeadW.take 3 (v := .pointer (some ⟨gs, 1, none⟩)) rfl (by kernel_rfl) (by kernel_rfl) (by kernel_rfl) (by decide) (by decide) (fun _ _ _ hL => seqB_ready hL.1) (by kernel_rfl) (by kernel_rfl) (fun _ _ _ h => h) hS0 (.inl ⟨by rfl, by intro w hSw; (try dsimp only at hSw); go_simp⟩) ?_
          simp only [Act.put]
          refine HeadW.take 4 (v := .slice AT k cT) rfl (by kernel_rfl) (by kernel_rfl) (by kernel_rfl) (by decide) (by decide) (fun _ _ _ hL => seqB_ready hL.1) (by kernel_rfl) (by kernel_rfl) (fun _ _ _ h => h) hS0 (.inl ⟨by rfl, by intro w hSw; (try dsimp only at hSw); go_simp⟩) ?_
          simp only [Act.put]
          refine HeadW.take 5 (v := .agg #[.int .i64 y.kind, .int .i64 y.n, .slice y.p.A y.p.ys.length y.p.c]) rfl (by kernel_rfl) (by kernel_rfl) (by kernel_rfl) (by decide) (by decide) (fun _ _ _ hL => seqB_ready hL.1) (by kernel_rfl) (by kernel_rfl) (fun _ _ _ h => h) hS0 (.inl ⟨by rfl, by intro w hSw; (try dsimp only at hSw); go_simp⟩) ?_
          simp only [Act.put]
          refine HeadW.one 6 rfl (by decide) (by kernel_rfl) fun K hK => ?_
          go_simp
          obtain ⟨wb, hwb⟩ : ∃ wb, wb = (w6.alloc (.cells #[.int .i64 y.kind, .int .i64 y.n, .slice y.p.A y.p.ys.length y.p.c] 30)).drew := ⟨_, rfl⟩
          have hOb : Below w6.heap.size w6 wb := by rw [hwb]; exact below_drewN ((Below.refl _ _).alloc (Nat.le_refl _) _) 1
          have hRb : RV wb (some ⟨w6.heap.size, 0, none⟩) (itemCells y) := by rw [hwb]; exact (RV.of_blk (Blk.new w6 _ #[_, _, _])).drew
          have hfb : wb.frozen? ⟨gs, 1, none⟩ = false := by rw [hwb]; exact hfa _
          have hzb : wb.heap.size = w6.heap.size + 1 := by rw [hwb]; simp
          have hSb := HS6.out.below hOb
          have hrdb := Hrd6.out.below hOb
          rw [← hwb]
          refine hK.out _ _ ⟨hSb.blk.cell 1, hfb, by rw [(bcell hOb).1 _ _ hgi6]; exact c0, by rw [(bcell hOb).1 _ _ hgi6]; exact c1, by rw [(bcell hOb).1 _ _ hgi6]; exact c2⟩ (fun hHeld => ?_)
          clear hK K hfa hS0 hwb s1 f1
          refine HeadW.one 7 rfl (by decide) (by kernel_rfl) fun K hK => ?_
          refine step_app (by rfl) (.tmp 74) (.tmp 76) eItem (by rfl) (base := w.heap.size) (n := k) (c := cT) (A := AT) (vs := told.flatMap itemCells) (by rfl) hSb.rowT (A' := some ⟨w6.heap.size, 0, none⟩) (m := 1) (c' := 1) (us := itemCells y) (by rfl) hRb rfl (items_one [y]) (by unfold maxLen; omega) (by omega) (by omega) (by simp) ?_
          intro A2 c2' w7 hown7 hgrow7 hat7
          have ho7 : Only (fun b => AT.map (·.block) = some b) wb w7 := Only.of_grown hgrow7 fun b e => e
          have hblk7 := hSb.blk.only ho7 (hSb.rowT.ne_map hSb.blk (by decide))
          have hleft7 := hSb.left.only ho7 (hSb.rowT.ne_map2 hSb.left (by decide))
          have hown7b : ∀ z ∈ told, Mine w7 w.heap.size z := fun z hz => (hSb.own z hz).only ho7 (hSb.rowT.ne_mine (hSb.own z hz) (by decide))
          have hyo7 : Mine w7 w.heap.size y := (Hyo.out.below hOb).only ho7 (hSb.rowT.ne_mine (Hyo.out.below hOb) (by decide))
          have hrd7 := hrdb.only ho7 (hSb.rowT.ne_map hrdb.blk (by decide)) fun b o e h => by have := (HA.out b o e).2; have := (HATlt.out b h).1; omega
          have hOw7 : Only (fun b => b = g ∨ b = gs) w w7 := (HO6.out.trans (Only.of_fresh hOb)).more ho7 fun b hb h => by have := (HATlt.out b h).1; omega
          have hgi7 : w7.cell? ⟨wr.heap.size, 0, none⟩ = some (.int .i64 y.kind) ∧ w7.cell? ⟨wr.heap.size, 1, none⟩ = some (.int .i64 y.n) ∧ w7.cell? ⟨wr.heap.size, 2, none⟩ = some (.slice y.p.A y.p.ys.length y.p.c) := by
            have hni : ¬ (AT.map (·.block) = some wr.heap.size) := fun h => by have := (HATlt.out _ h).2; omega
            refine ⟨?_, ?_, ?_⟩ <;> rw [(ocell ho7).1 _ _ (by omega) hni, (bcell hOb).1 _ _ hgi6] <;> assumption
          refine hK.out _ _ ⟨hblk7.cell 1, hblk7.frozen 1, hgi7⟩ (fun hHeld => ?_)
          refine fun _ => ⟨by kernel_rfl, ?_⟩
          have f71 := hblk7.frozen 1
          have c71 : w7.cell? ⟨gs, 1, none⟩ = some (.slice AT k cT) := hblk7.cell 1
          have hgs7 := hblk7.lt
          have Hblk7 := Lib.hid hblk7
          have Hown7 := Lib.hid hown7
          have Hleft7 := Lib.hid hleft7
          have Hown7b := Lib.hid hown7b
          have Hyo7 := Lib.hid hyo7
          have Hrd7 := Lib.hid hrd7
          have HOw7 := Lib.hid hOw7
          clear hK K hHeld hblk7 hown7 hleft7 hown7b hyo7 hrd7 hOw7 hgi7 hgrow7 hat7 ho7 hSb hrdb hOb hRb hfb hzb c0 c1 c2 Hba
          go_wp2_with fail
          obtain ⟨w8, hw8⟩ : ∃ w8, w8 = w7.setCell ⟨gs, 1, none⟩ (.slice A2 (k + 1) c2') := ⟨_, rfl⟩
          rw [← hw8]
          have ho8 : Only (fun b => b = gs) w7 w8 := by rw [hw8]; exact (Only.refl (fun b => b = gs) w7).setCell (p := ⟨gs, 1, none⟩) (.inl rfl) _
          have hblk8 : Blk w8 gs 83 #[.slice (some ⟨pb, poff, none⟩) all.length cW, .slice A2 (k + 1) c2', .slice AL k cL, .pointer (some ⟨g, 0, none⟩)] := by
            rw [hw8]; exact Blk.setL (cs := [.slice (some ⟨pb, poff, none⟩) all.length cW, .slice AT k cT, .slice AL k cL, .pointer (some ⟨g, 0, none⟩)]) Hblk7.out 1 _
          clear hw8
          have hown8 := Hown7.out.only ho8 fun b o e h => Hown7.out.ne_blk Hblk7.out (by decide) b o e h
          have hleft8 := Hleft7.out.only ho8 fun b o e h => Hleft7.out.ne_blk Hblk7.out (by decide) b o e h
          have hown8b : ∀ z ∈ told, Mine w8 w.heap.size z := fun z hz => (Hown7b.out z hz).only ho8 fun b o e h => (Hown7b.out z hz).ne_blk Hblk7.out (by decide) b o e h
          have hyo8 := Hyo7.out.only ho8 fun b o e h => Hyo7.out.ne_blk Hblk7.out (by decide) b o e h
          have hrd8 := Hrd7.out.only ho8 (fun h => hgs h.symm) fun b o e h => (HA.out b o e).1 h
          have hOw8 : Only (fun b => b = g ∨ b = gs) w w8 := HOw7.out.trans (ho8.mono fun _ _ e => .inr e)
          have s2 : w8.cell? ⟨gs, 2, none⟩ = some (.slice AL k cL) := hblk8.cell 2
          have f2 := hblk8.frozen 2
          have hgs8 := hblk8.lt
          have hb8 : w.heap.size ≤ w8.heap.size := hOw8.size
          have hS0 : (fun w' : World => w'.cell? ⟨gs, 2, none⟩ = some (.slice AL k cL) ∧ w'.frozen? ⟨gs, 2, none⟩ = false) w8.drew := ⟨s2, f2⟩
          refine region_heldT 9 (fun w' => w'.cell? ⟨gs, 2, none⟩ = some (.slice AL k cL) ∧ w'.frozen? ⟨gs, 2, none⟩ = false) (by kernel_rfl) (by decide) ?_
          refine HeadW.take 0 (v := .pointer (some ⟨gs, 0, none⟩)) rfl (by kernel_rfl) (by kernel_rfl) (by kernel_rfl) (by decide) (by decide) (fun _ _ _ hL => seqB_ready hL.1) (by kernel_rfl) (by kernel_rfl) (fun _ _ _ h => h) hS0 (.inl ⟨by rfl, by intro w hSw; (try dsimp only at hSw); go_simp⟩) ?_
          simp only [Act.put, List.setIfInBounds_toArray]
          refine HeadW.take 1 (v := .pointer (some ⟨gs, 0, none⟩)) rfl (by kernel_rfl) (by kernel_rfl) (by kernel_rfl) (by decide) (by decide) (fun _ _ _ hL => seqB_ready hL.1) (by kernel_rfl) (by kernel_rfl) (fun _ _ _ h => h) hS0 (.inl ⟨by rfl, by intro w hSw; (try dsimp only at hSw); go_simp⟩) ?_
          simp only [Act.put]
          refine HeadW.take 2 (v := .pointer (some ⟨gs, 0, none⟩)) rfl (by kernel_rfl) (by kernel_rfl) (by kernel_rfl) (by decide) (by decide) (fun _ _ _ hL => seqB_ready hL.1) (by kernel_rfl) (by kernel_rfl) (fun _ _ _ h => h) hS0 (.inl ⟨by rfl, by intro w hSw; (try dsimp only at hSw); go_simp⟩) ?_
          simp only [Act.put]
          refine HeadW.take 3 (v := .pointer (some ⟨gs, 2, none⟩)) rfl (by kernel_rfl) (by kernel_rfl) (by kernel_rfl) (by decide) (by decide) (fun _ _ _ hL => seqB_ready hL.1) (by kernel_rfl) (by kernel_rfl) (fun _ _ _ h => h) hS0 (.inl ⟨by rfl, by intro w hSw; (try dsimp only at hSw); go_simp⟩) ?_
          simp only [Act.put]
          refine HeadW.take 4 (v := .slice AL k cL) rfl (by kernel_rfl) (by kernel_rfl) (by kernel_rfl) (by decide) (by decide) (fun _ _ _ hL => seqB_ready hL.1) (by kernel_rfl) (by kernel_rfl) (fun _ _ _ h => h) hS0 (.inl ⟨by rfl, by intro w hSw; (try dsimp only at hSw); go_simp⟩) ?_
          simp only [Act.put]
          refine HeadW.take 5 (v := .pointer (some ⟨g, 0, none⟩)) rfl (by kernel_rfl) (by kernel_rfl) (by kernel_rfl) (by decide) (by decide) (fun _ _ _ hL => seqB_ready hL.1) (by kernel_rfl) (by kernel_rfl) (fun _ _ _ h => h) hS0 (.inl ⟨by rfl, by intro w hSw; (try dsimp only at hSw); go_simp⟩) ?_
          simp only [Act.put]
          refine HeadW.one 6 rfl (by decide) (by kernel_rfl) fun K hK => ?_
          go_simp
          refine (rLeft_any g c _ A bs w8.drew (hrd8.drewN 1) hl).mono ?_
          rintro e _ ⟨rfl, m, rfl⟩
          have hzl : a2 ≤ bs.length := hrd8.le
          obtain ⟨lv, hlv⟩ : ∃ lv : Nat, lv = bs.length - a2 := ⟨_, rfl⟩
          rw [← hlv]
          obtain ⟨w9, hw9⟩ : ∃ w9, w9 = w8.drew.drewN m := ⟨_, rfl⟩
          have hO9 : Below w8.heap.size w8 w9 := by rw [hw9]; exact below_drewN (below_drewN (Below.refl _ _) 1) m
          have hz9 : w9.heap.size = w8.heap.size := by rw [hw9]; rfl
          have hS9 : w9.cell? ⟨gs, 2, none⟩ = some (.slice AL k cL) ∧ w9.frozen? ⟨gs, 2, none⟩ = false := by rw [hw9]; exact ⟨s2, f2⟩
          rw [← hw9]
          have Hlv := Lib.hid hlv
          clear hw9 hlv
          refine hK.out _ _ hS9 (fun hHeld => ?_)
          clear hK K hHeld hS0
          refine HeadW.one 7 rfl (by decide) (by kernel_rfl) fun K hK => ?_
          go_simp
          obtain ⟨wc, hwc⟩ : ∃ wc, wc = w9.alloc (.cells #[.int .i64 (lv : Int)] 3) := ⟨_, rfl⟩
          have hOc : Below w9.heap.size w9 wc := by rw [hwc]; exact (Below.refl _ _).alloc (Nat.le_refl _) _
          have hRc : RV wc (some ⟨w9.heap.size, 0, none⟩) [.int .i64 (lv : Int)] := by rw [hwc]; exact RV.of_blk (Blk.new w9 _ #[_])
          have hzc : wc.heap.size = w9.heap.size + 1 := by rw [hwc]; simp
          rw [hz9] at hRc
          have hOc8 : Below w8.heap.size w8 wc := hO9.trans (hOc.mono (by omega))
          have hblkc := hblk8.below hOc8 hgs8
          have hleftc := hleft8.below hOc8 (Nat.le_refl _)
          have hownc := hown8.below hOc8 (Nat.le_refl _)
          have hrdc := hrd8.below hOc8
          rw [← hwc]
          clear hwc
          refine hK.out _ _ ⟨hblkc.cell 2, hblkc.frozen 2⟩ (fun hHeld => ?_)
          clear hK K hHeld
          refine HeadW.one 8 rfl (by decide) (by kernel_rfl) fun K hK => ?_
          refine step_app (by rfl) (.tmp 84) (.tmp 87) eInt (by rfl) (base := w.heap.size) (n := k) (c := cL) (A := AL) (vs := leftG bs ats k) (by rfl) hleftc (A' := some ⟨w8.heap.size, 0, none⟩) (m := 1) (c' := 1) (us := [.int .i64 (lv : Int)]) (by rfl) hRc rfl (fun v hv => by rcases List.mem_singleton.1 hv with rfl; rfl) (by unfold maxLen; omega) (by omega) (by omega) (by simp) ?_
          intro AL2 cL2 w10 hown10 hgrow10 hat10
          have ho10 : Only (fun b => AL.map (·.block) = some b) wc w10 := Only.of_grown hgrow10 fun b e => e
          have hALlt : ∀ b, AL.map (·.block) = some b → w.heap.size ≤ b := fun b h => (Own.row hleft8 b h).1
          have hblk10 := hblkc.only ho10 (hleftc.ne_map hblkc (by decide))
          have hrow10 := hownc.only ho10 (hleftc.ne_map2 hownc (by decide))
          have hown10b : ∀ z ∈ told, Mine w10 w.heap.size z := fun z hz => ((hown8b z hz).below hOc8).only ho10 (hleftc.ne_mine ((hown8b z hz).below hOc8) (by decide))
          have hyo10 : Mine w10 w.heap.size y := (hyo8.below hOc8).only ho10 (hleftc.ne_mine (hyo8.below hOc8) (by decide))
          have hrd10 := hrdc.only ho10 (hleftc.ne_map hrdc.blk (by decide)) fun b o e h => by have := (HA.out b o e).2; have := hALlt b h; omega
          have hOw10 : Only (fun b => b = g ∨ b = gs) w w10 := (hOw8.trans (Only.of_fresh hOc8)).more ho10 fun b hb h => by have := hALlt b h; omega
          refine hK.out _ _ ⟨hblk10.cell 2, hblk10.frozen 2⟩ (fun hHeld => ?_)
          refine fun _ => ⟨by kernel_rfl, ?_⟩
          have f102 := hblk10.frozen 2
          have c102 : w10.cell? ⟨gs, 2, none⟩ = some (.slice AL k cL) := hblk10.cell 2
          have hgs10 := hblk10.lt
          have Hblk10 := Lib.hid hblk10
          have Hown10 := Lib.hid hown10
          have Hrow10 := Lib.hid hrow10
          have Hown10b := Lib.hid hown10b
          have Hyo10 := Lib.hid hyo10
          have Hrd10 := Lib.hid hrd10
          have HOw10 := Lib.hid hOw10
          clear hK K hHeld hblk10 hown10 hrow10 hown10b hyo10 hrd10 hOw10 hgrow10 hat10 ho10 hblkc hleftc hownc hrdc hOc hOc8 hRc hO9 hS9 hblk8 hown8 hleft8 hown8b hyo8 hrd8 hOw8 ho8 s2 f2
          go_wp2_with fail
          refine ⟨⟨k + 1, fun j => if j = k + 1 then a2 else ats j, A2, c2', AL2, cL2, told ++ [y], by omega, by go_num, ⟨?_, ?_, ?_, ?_, ?_, ?_, ?_, ?_⟩, ?_, ?_⟩, by simp [intOf]; omega⟩
          · exact Blk.setL (cs := [.slice (some ⟨pb, poff, none⟩) all.length cW, .slice A2 (k + 1) c2', .slice AL k cL, .pointer (some ⟨g, 0, none⟩)]) Hblk10.out 2 _
          · have h := Hrow10.out.only (S := fun b => b = gs) (w' := w10.setCell ⟨gs, 2, none⟩ (.slice AL2 (k + 1) cL2)) ((Only.refl (fun b => b = gs) w10).setCell (p := ⟨gs, 2, none⟩) (.inl rfl) _) fun b o e h => Hrow10.out.ne_blk Hblk10.out (by decide) b o e h
            rw [List.flatMap_append]
            simpa using h
          · have h := Hown10.out.only (S := fun b => b = gs) (w' := w10.setCell ⟨gs, 2, none⟩ (.slice AL2 (k + 1) cL2)) ((Only.refl (fun b => b = gs) w10).setCell (p := ⟨gs, 2, none⟩) (.inl rfl) _) fun b o e h => Hown10.out.ne_blk Hblk10.out (by decide) b o e h
            have e := leftG_next bs ats k a2
            rw [← Hlv.out] at e
            rw [e]
            exact h
          · rw [List.length_append, HS6.out.len]; rfl
          · exact (if_neg (by omega)).trans HS6.out.zero
          · intro j hj h2
            rcases Nat.lt_or_ge j k with h | h
            · obtain ⟨z, hz, hz2⟩ := HS6.out.step j h h2
              refine ⟨z, by rw [List.getElem?_append_left (by rw [HS6.out.len]; exact h)]; exact hz, ?_⟩
              rw [if_neg (by omega), if_neg (by omega)]
              exact hz2
            · obtain rfl : j = k := by omega
              refine ⟨y, by rw [List.getElem?_append_right (by rw [HS6.out.len]; exact h), HS6.out.len, Nat.sub_self]; rfl, ?_⟩
              rw [if_neg (by omega), if_pos rfl, ← Hxe.out]
              exact Has.out
          · intro z hz
            have hz2 : Mine w10 w.heap.size z := by
              rcases List.mem_append.1 hz with h | h
              · exact Hown10b.out z h
              · rcases List.mem_singleton.1 h with rfl
                exact Hyo10.out
            exact hz2.only ((Only.refl (fun b => b = gs) w10).setCell (p := ⟨gs, 2, none⟩) (.inl rfl) _) fun b o e h => hz2.ne_blk Hblk10.out (by decide) b o e h
          · intro i j yi yj hij hi
            exact sole_snoc HS6.out.sole Hsole.out hij hi
          · show Rd _ g A c bs (if k + 1 = k + 1 then a2 else ats (k + 1)) false 0
            rw [if_pos rfl]
            exact Hrd10.out.only ((Only.refl (fun b => b = gs) w10).setCell (p := ⟨gs, 2, none⟩) (.inl rfl) _) (fun h => hgs h.symm) fun b o e h => (HA.out b o e).1 h
          · exact HOw10.out.setCell (p := ⟨gs, 2, none⟩) (.inl (.inr rfl)) _
      · have h6 : x.kind = 6 := by have := Hx.out.1; have := Hx.out.2.1; omega
        clear h1 h2 h3 h4 h5
        have q1 : (x.kind == 1) = false := by rw [beq_eq_false_iff_ne]; omega
        have q2 : (x.kind == 2) = false := by rw [beq_eq_false_iff_ne]; omega
        have q3 : (x.kind == 3) = false := by rw [beq_eq_false_iff_ne]; omega
        have q4 : (x.kind == 4) = false := by rw [beq_eq_false_iff_ne]; omega
        have q5 : (x.kind == 5) = false := by rw [beq_eq_false_iff_ne]; omega
        have g2 : (x.kind == 6) = true := by rw [beq_iff_eq]; exact h6
        have Hkd := Lib.hid h6
        clear h6
        have hc := rRaw_any g c (ats k) (x.p.ys.length : Int) A bs wa Hrda.out hl
        cases hr : rRawL bs (ats k) (x.p.ys.length : Int) with
        | error f =>
          rw [hr] at hc
          have hfz : f ≠ 0 := rRaw_err hr
          have Herr := Lib.hid (show Err1 bs (ats k) x f from Err1.raw Hkd.out hr)
          clear hr
          dsimp only at hc
          go_wp2_with fail
          rw [← Hwa.out]
          refine hc.mono ?_
          rintro e w5 ⟨rfl, ⟨at5, hrd5⟩, ho5⟩
          have hO5 : Only (fun b => b = g ∨ b = gs) w w5 := HO.out.trans (((Only.of_fresh Hba.out).trans ho5).mono fun _ _ e => .inl e)
          have HO5 := Lib.hid hO5
          have Hrd5 := Lib.hid hrd5
          clear hO5 hrd5 ho5 hc
          go_wp2_with fail
          exact ⟨rfl, HO5.out, .inr ⟨f, at5, hfz, rfl, Hrd5.out, k, ats, told, hlt, HS.out.zero, HS.out.step, by rw [← Hxe.out]; exact Herr.out⟩⟩
        | ok p =>
          rw [hr] at hc
          obtain ⟨ys, hys⟩ : ∃ ys, ys = p := ⟨_, rfl⟩
          rw [← hys] at hr hc
          clear hys
          have Hr := Lib.hid hr
          clear hr
          dsimp only at hc
          rw [Int.toNat_natCast] at hc
          obtain ⟨a2, ha2⟩ : ∃ a2, a2 = ats k + x.p.ys.length := ⟨_, rfl⟩
          rw [← ha2] at hc
          have Ha2 := Lib.hid ha2
          clear ha2
          go_wp2_with fail
          rw [← Hwa.out]
          refine hc.mono ?_
          rintro e w5 ⟨A5, c5, rfl, hown5, hrd5, ho5⟩
          have hfr5 : ∀ b o, A5 = some ⟨b, o, none⟩ → wr.heap.size ≤ b := fun b o h => by have := (Own.row hown5 b (by rw [h]; rfl)).1; omega
          have hown5b := hown5.mono (base' := w.heap.size) (by have := HO.out.size; omega)
          have Hown5 := Lib.hid hown5b
          have Hfr5 := Lib.hid hfr5
          clear hown5 hown5b hfr5
          have hB5 := HBa.out.only ho5 (by omega)
          have hf5 := hB5.frozen 2
          have hc51 : w5.cell? ⟨wr.heap.size, 2, none⟩ = some (.slice none 0 0) := hB5.cell 2
          have hgi := hB5.lt
          have Hrd5 := Lib.hid hrd5
          have Ho5 := Lib.hid ho5
          have HB5 := Lib.hid hB5
          clear hc hrd5 ho5 hB5
          go_wp2_with fail
          obtain ⟨y, hy⟩ : ∃ y : Item, y = ⟨x.kind, 0, ⟨A5, c5, ys⟩⟩ := ⟨_, rfl⟩
          obtain ⟨w6, hw6⟩ : ∃ w6, w6 = w5.setCell ⟨wr.heap.size, 2, none⟩ (.slice A5 ys.length c5) := ⟨_, rfl⟩
          have hB6 : Blk w6 wr.heap.size 30 (itemCells y).toArray := by rw [hw6, hy]; exact Blk.setL (cs := [.int .i64 x.kind, .int .i64 0, .slice none 0 0]) HB5.out 2 _
          have ho6 : Only (fun b => b = g) wr w6 := by rw [hw6]; exact (((Only.of_fresh Hba.out).trans Ho5.out).setCell (p := ⟨wr.heap.size, 2, none⟩) (.inr (Nat.le_refl _)) _)
          have hrd6 : Rd w6 g A c bs a2 false 0 := by
            rw [hw6]
            exact Hrd5.out.only ((Only.refl (fun b => b = wr.heap.size) w5).setCell (p := ⟨wr.heap.size, 2, none⟩) (.inl rfl) _) (by omega) fun b o e => by have := (HA.out b o e).2; have := HO.out.size; omega
          have has : Step bs (ats k) x y a2 := by
            rw [hy]
            exact ⟨rfl, Hrd5.out.le, Step1.raw Hkd.out Hr.out Ha2.out⟩
          have hyo : Mine w6 w.heap.size y := by
            rw [hy, hw6]
            exact (Mine.of_own Hown5.out).only ((Only.refl (fun b => b = wr.heap.size) w5).setCell (p := ⟨wr.heap.size, 2, none⟩) (.inl rfl) _) fun b o e h => (Mine.of_own (k := x.kind) (n := 0) Hown5.out).ne_blk HB5.out (by decide) b o e h
          have hyf : ∀ b o, y.p.A = some ⟨b, o, none⟩ → wr.heap.size ≤ b := by
            rw [hy]
            exact Hfr5.out
          have hS6 := HS.out.onto Hrd2.out.blk ho6 hgs
          have c0 : w6.cell? ⟨wr.heap.size, 0, none⟩ = some (.int .i64 y.kind) := hB6.cell 0
          have c1 : w6.cell? ⟨wr.heap.size, 1, none⟩ = some (.int .i64 y.n) := hB6.cell 1
          have c2 : w6.cell? ⟨wr.heap.size, 2, none⟩ = some (.slice y.p.A y.p.ys.length y.p.c) := hB6.cell 2
          rw [← hw6]
          have hsole : ∀ z ∈ told, ∀ b o o', z.p.A = some ⟨b, o, none⟩ → y.p.A ≠ some ⟨b, o', none⟩ := fun z hz b o o' h1 h2 => by
            have e1 := (HS.out.own z hz).lt b o h1
            have e2 := hyf b o' h2
            omega
          have Hsole := Lib.hid hsole
          clear hsole hyf
          have hgi6 := hB6.lt
          have HB6 := Lib.hid hB6
          have HO6 := Lib.hid (HO.out.trans (ho6.mono fun _ _ e => .inl e))
          have Hrd6 := Lib.hid hrd6
          have Has := Lib.hid has
          have Hyo := Lib.hid hyo
          have HS6 := Lib.hid hS6
          clear hw6 hB6 ho6 hrd6 has hyo hS6 HB5 Ho5 Hrd5 hf5 hc51 hy HBa Hrda Hwa HS Hrd2 HO s0 ck cp hgi
          have s1 : w6.cell? ⟨gs, 1, none⟩ = some (.slice AT k cT) := HS6.out.blk.cell 1
          have f1 := HS6.out.blk.frozen 1
          have hgs6 := HS6.out.blk.lt
          have hb6 : w.heap.size ≤ w6.heap.size := HO6.out.size
          have hfa : ∀ o, ((w6.alloc o).drew).frozen? ⟨gs, 1, none⟩ = false := fun o => by rw [(ocell (((Only.refl (fun _ => False) w6).alloc o).drew)).2 gs 1 hgs6 (fun h => h)]; exact f1
          refine region_heldT 8 (fun w' => w'.cell? ⟨gs, 1, none⟩ = some (.slice AT k cT) ∧ w'.frozen? ⟨gs, 1, none⟩ = false ∧ w'.cell? ⟨wr.heap.size, 0, none⟩ = some (.int .i64 y.kind) ∧ w'.cell? ⟨wr.heap.size, 1, none⟩ = some (.int .i64 y.n) ∧ w'.cell? ⟨wr.heap.size, 2, none⟩ = some (.slice y.p.A y.p.ys.length y.p.c)) (by kernel_rfl) (by decide) ?_
          have hS0 : (fun w' : World => w'.cell? ⟨gs, 1, none⟩ = some (.slice AT k cT) ∧ w'.frozen? ⟨gs, 1, none⟩ = false ∧ w'.cell? ⟨wr.heap.size, 0, none⟩ = some (.int .i64 y.kind) ∧ w'.cell? ⟨wr.heap.size, 1, none⟩ = some (.int .i64 y.n) ∧ w'.cell? ⟨wr.heap.size, 2, none⟩ = some (.slice y.p.A y.p.ys.length y.p.c)) w6.drew := ⟨s1, f1, c0, c1, c2⟩
          refine HeadW.take 0 (v := .pointer (some ⟨gs, 0, none⟩)) rfl (by kernel_rfl) (by kernel_rfl) (by kernel_rfl) (by decide) (by decide) (fun _ _ _ hL => seqB_ready hL.1) (by kernel_rfl) (by kernel_rfl) (fun _ _ _ h => h) hS0 (.inl ⟨by rfl, by intro w hSw; (try dsimp only at hSw); go_simp⟩) ?_
          simp only [Act.put, List.setIfInBounds_toArray]
          refine HeadW.take 1 (v := .pointer (some ⟨gs, 0, none⟩)) rfl (by kernel_rfl) (by kernel_rfl) (by kernel_rfl) (by decide) (by decide) (fun _ _ _ hL => seqB_ready hL.1) (by kernel_rfl) (by kernel_rfl) (fun _ _ _ h => h) hS0 (.inl ⟨by rfl, by intro w hSw; (try dsimp only at hSw); go_simp⟩) ?_
          simp only [Act.put]
          refine HeadW.take 2 (v := .pointer (some ⟨gs, 0, none⟩)) rfl (by kernel_rfl) (by kernel_rfl) (by kernel_rfl) (by decide) (by decide) (fun _ _ _ hL => seqB_ready hL.1) (by kernel_rfl) (by kernel_rfl) (fun _ _ _ h => h) hS0 (.inl ⟨by rfl, by intro w hSw; (try dsimp only at hSw); go_simp⟩) ?_
          simp only [Act.put]
          refine HeadW.take 3 (v := .pointer (some ⟨gs, 1, none⟩)) rfl (by kernel_rfl) (by kernel_rfl) (by kernel_rfl) (by decide) (by decide) (fun _ _ _ hL => seqB_ready hL.1) (by kernel_rfl) (by kernel_rfl) (fun _ _ _ h => h) hS0 (.inl ⟨by rfl, by intro w hSw; (try dsimp only at hSw); go_simp⟩) ?_
          simp only [Act.put]
          refine HeadW.take 4 (v := .slice AT k cT) rfl (by kernel_rfl) (by kernel_rfl) (by kernel_rfl) (by decide) (by decide) (fun _ _ _ hL => seqB_ready hL.1) (by kernel_rfl) (by kernel_rfl) (fun _ _ _ h => h) hS0 (.inl ⟨by rfl, by intro w hSw; (try dsimp only at hSw); go_simp⟩) ?_
          simp only [Act.put]
          refine HeadW.take 5 (v := .agg #[.int .i64 y.kind, .int .i64 y.n, .slice y.p.A y.p.ys.length y.p.c]) rfl (by kernel_rfl) (by kernel_rfl) (by kernel_rfl) (by decide) (by decide) (fun _ _ _ hL => seqB_ready hL.1) (by kernel_rfl) (by kernel_rfl) (fun _ _ _ h => h) hS0 (.inl ⟨by rfl, by intro w hSw; (try dsimp only at hSw); go_simp⟩) ?_
          simp only [Act.put]
          refine HeadW.one 6 rfl (by decide) (by kernel_rfl) fun K hK => ?_
          go_simp
          obtain ⟨wb, hwb⟩ : ∃ wb, wb = (w6.alloc (.cells #[.int .i64 y.kind, .int .i64 y.n, .slice y.p.A y.p.ys.length y.p.c] 30)).drew := ⟨_, rfl⟩
          have hOb : Below w6.heap.size w6 wb := by rw [hwb]; exact below_drewN ((Below.refl _ _).alloc (Nat.le_refl _) _) 1
          have hRb : RV wb (some ⟨w6.heap.size, 0, none⟩) (itemCells y) := by rw [hwb]; exact (RV.of_blk (Blk.new w6 _ #[_, _, _])).drew
          have hfb : wb.frozen? ⟨gs, 1, none⟩ = false := by rw [hwb]; exact hfa _
          have hzb : wb.heap.size = w6.heap.size + 1 := by rw [hwb]; simp
          have hSb := HS6.out.below hOb
          have hrdb := Hrd6.out.below hOb
          rw [← hwb]
          refine hK.out _ _ ⟨hSb.blk.cell 1, hfb, by rw [(bcell hOb).1 _ _ hgi6]; exact c0, by rw [(bcell hOb).1 _ _ hgi6]; exact c1, by rw [(bcell hOb).1 _ _ hgi6]; exact c2⟩ (fun hHeld => ?_)
          clear hK K hfa hS0 hwb s1 f1
          refine HeadW.one 7 rfl (by decide) (by kernel_rfl) fun K hK => ?_
          refine step_app (by rfl) (.tmp 74) (.tmp 76) eItem (by rfl) (base := w.heap.size) (n := k) (c := cT) (A := AT) (vs := told.flatMap itemCells) (by rfl) hSb.rowT (A' := some ⟨w6.heap.size, 0, none⟩) (m := 1) (c' := 1) (us := itemCells y) (by rfl) hRb rfl (items_one [y]) (by unfold maxLen; omega) (by omega) (by omega) (by simp) ?_
          intro A2 c2' w7 hown7 hgrow7 hat7
          have ho7 : Only (fun b => AT.map (·.block) = some b) wb w7 := Only.of_grown hgrow7 fun b e => e
          have hblk7 := hSb.blk.only ho7 (hSb.rowT.ne_map hSb.blk (by decide))
          have hleft7 := hSb.left.only ho7 (hSb.rowT.ne_map2 hSb.left (by decide))
          have hown7b : ∀ z ∈ told, Mine w7 w.heap.size z := fun z hz => (hSb.own z hz).only ho7 (hSb.rowT.ne_mine (hSb.own z hz) (by decide))
          have hyo7 : Mine w7 w.heap.size y := (Hyo.out.below hOb).only ho7 (hSb.rowT.ne_mine (Hyo.out.below hOb) (by decide))
          have hrd7 := hrdb.only ho7 (hSb.rowT.ne_map hrdb.blk (by decide)) fun b o e h => by have := (HA.out b o e).2; have := (HATlt.out b h).1; omega
          have hOw7 : Only (fun b => b = g ∨ b = gs) w w7 := (HO6.out.trans (Only.of_fresh hOb)).more ho7 fun b hb h => by have := (HATlt.out b h).1; omega
          have hgi7 : w7.cell? ⟨wr.heap.size, 0, none⟩ = some (.int .i64 y.kind) ∧ w7.cell? ⟨wr.heap.size, 1, none⟩ = some (.int .i64 y.n) ∧ w7.cell? ⟨wr.heap.size, 2, none⟩ = some (.slice y.p.A y.p.ys.length y.p.c) := by
            have hni : ¬ (AT.map (·.block) = some wr.heap.size) := fun h => by have := (HATlt.out _ h).2; omega
            refine ⟨?_, ?_, ?_⟩ <;> rw [(ocell ho7).1 _ _ (by omega) hni, (bcell hOb).1 _ _ hgi6] <;> assumption
          refine hK.out _ _ ⟨hblk7.cell 1, hblk7.frozen 1, hgi7⟩ (fun hHeld => ?_)
          refine fun _ => ⟨by kernel_rfl, ?_⟩
          have f71 := hblk7.frozen 1
          have c71 : w7.cell? ⟨gs, 1, none⟩ = some (.slice AT k cT) := hblk7.cell 1
          have hgs7 := hblk7.lt
          have Hblk7 := Lib.hid hblk7
          have Hown7 := Lib.hid hown7
          have Hleft7 := Lib.hid hleft7
          have Hown7b := Lib.hid hown7b
          have Hyo7 := Lib.hid hyo7
          have Hrd7 := Lib.hid hrd7
          have HOw7 := Lib.hid hOw7
          clear hK K hHeld hblk7 hown7 hleft7 hown7b hyo7 hrd7 hOw7 hgi7 hgrow7 hat7 ho7 hSb hrdb hOb hRb hfb hzb c0 c1 c2 Hba
          go_wp2_with fail
          obtain ⟨w8, hw8⟩ : ∃ w8, w8 = w7.setCell ⟨gs, 1, none⟩ (.slice A2 (k + 1) c2') := ⟨_, rfl⟩
          rw [← hw8]
          have ho8 : Only (fun b => b = gs) w7 w8 := by rw [hw8]; exact (Only.refl (fun b => b = gs) w7).setCell (p := ⟨gs, 1, none⟩) (.inl rfl) _
          have hblk8 : Blk w8 gs 83 #[.slice (some ⟨pb, poff, none⟩) all.length cW, .slice A2 (k + 1) c2', .slice AL k cL, .pointer (some ⟨g, 0, none⟩)] := by
            rw [hw8]; exact Blk.setL (cs := [.slice (some ⟨pb, poff, none⟩) all.length cW, .slice AT k cT, .slice AL k cL, .pointer (some ⟨g, 0, none⟩)]) Hblk7.out 1 _
          clear hw8
          have hown8 := Hown7.out.only ho8 fun b o e h => Hown7.out.ne_blk Hblk7.out (by decide) b o e h
          have hleft8 := Hleft7.out.only ho8 fun b o e h => Hleft7.out.ne_blk Hblk7.out (by decide) b o e h
          have hown8b : ∀ z ∈ told, Mine w8 w.heap.size z := fun z hz => (Hown7b.out z hz).only ho8 fun b o e h => (Hown7b.out z hz).ne_blk Hblk7.out (by decide) b o e h
          have hyo8 := Hyo7.out.only ho8 fun b o e h => Hyo7.out.ne_blk Hblk7.out (by decide) b o e h
          have hrd8 := Hrd7.out.only ho8 (fun h => hgs h.symm) fun b o e h => (HA.out b o e).1 h
          have hOw8 : Only (fun b => b = g ∨ b = gs) w w8 := HOw7.out.trans (ho8.mono fun _ _ e => .inr e)
          have s2 : w8.cell? ⟨gs, 2, none⟩ = some (.slice AL k cL) := hblk8.cell 2
          have f2 := hblk8.frozen 2
          have hgs8 := hblk8.lt
          have hb8 : w.heap.size ≤ w8.heap.size := hOw8.size
          have hS0 : (fun w' : World => w'.cell? ⟨gs, 2, none⟩ = some (.slice AL k cL) ∧ w'.frozen? ⟨gs, 2, none⟩ = false) w8.drew := ⟨s2, f2⟩
          refine region_heldT 9 (fun w' => w'.cell? ⟨gs, 2, none⟩ = some (.slice AL k cL) ∧ w'.frozen? ⟨gs, 2, none⟩ = false) (by kernel_rfl) (by decide) ?_
          refine HeadW.take 0 (v := .pointer (some ⟨gs, 0, none⟩)) rfl (by kernel_rfl) (by kernel_rfl) (by kernel_rfl) (by decide) (by decide) (fun _ _ _ hL => seqB_ready hL.1) (by kernel_rfl) (by kernel_rfl) (fun _ _ _ h => h) hS0 (.inl ⟨by rfl, by intro w hSw; (try dsimp only at hSw); go_simp⟩) ?_
          simp only [Act.put, List.setIfInBounds_toArray]
          refine HeadW.take 1 (v := .pointer (some ⟨gs, 0, none⟩)) rfl (by kernel_rfl) (by kernel_rfl) (by kernel_rfl) (by decide) (by decide) (fun _ _ _ hL => seqB_ready hL.1) (by kernel_rfl) (by kernel_rfl) (fun _ _ _ h => h) hS0 (.inl ⟨by rfl, by intro w hSw; (try dsimp only at hSw); go_simp⟩) ?_
          simp only [Act.put]
          refine HeadW.take 2 (v := .pointer (some ⟨gs, 0, none⟩)) rfl (by kernel_rfl) (by kernel_rfl) (by kernel_rfl) (by decide) (by decide) (fun _ _ _ hL => seqB_ready hL.1) (by kernel_rfl) (by kernel_rfl) (fun _ _ _ h => h) hS0 (.inl ⟨by rfl, by intro w hSw; (try dsimp only at hSw); go_simp⟩) ?_
          simp only [Act.put]
          refine HeadW.take 3 (v := .pointer (some ⟨gs, 2, none⟩)) rfl (by kernel_rfl) (by kernel_rfl) (by kernel_rfl) (by decide) (by decide) (fun _ _ _ hL => seqB_ready hL.1) (by kernel_rfl) (by kernel_rfl) (fun _ _ _ h => h) hS0 (.inl ⟨by rfl, by intro w hSw; (try dsimp only at hSw); go_simp⟩) ?_
          simp only [Act.put]
          refine HeadW.take 4 (v := .slice AL k cL) rfl (by kernel_rfl) (by kernel_rfl) (by kernel_rfl) (by decide) (by decide) (fun _ _ _ hL => seqB_ready hL.1) (by kernel_rfl) (by kernel_rfl) (fun _ _ _ h => h) hS0 (.inl ⟨by rfl, by intro w hSw; (try dsimp only at hSw); go_simp⟩) ?_
          simp only [Act.put]
          refine HeadW.take 5 (v := .pointer (some ⟨g, 0, none⟩)) rfl (by kernel_rfl) (by kernel_rfl) (by kernel_rfl) (by decide) (by decide) (fun _ _ _ hL => seqB_ready hL.1) (by kernel_rfl) (by kernel_rfl) (fun _ _ _ h => h) hS0 (.inl ⟨by rfl, by intro w hSw; (try dsimp only at hSw); go_simp⟩) ?_
          simp only [Act.put]
          refine HeadW.one 6 rfl (by decide) (by kernel_rfl) fun K hK => ?_
          go_simp
          refine (rLeft_any g c _ A bs w8.drew (hrd8.drewN 1) hl).mono ?_
          rintro e _ ⟨rfl, m, rfl⟩
          have hzl : a2 ≤ bs.length := hrd8.le
          obtain ⟨lv, hlv⟩ : ∃ lv : Nat, lv = bs.length - a2 := ⟨_, rfl⟩
          rw [← hlv]
          obtain ⟨w9, hw9⟩ : ∃ w9, w9 = w8.drew.drewN m := ⟨_, rfl⟩
          have hO9 : Below w8.heap.size w8 w9 := by rw [hw9]; exact below_drewN (below_drewN (Below.refl _ _) 1) m
          have hz9 : w9.heap.size = w8.heap.size := by rw [hw9]; rfl
          have hS9 : w9.cell? ⟨gs, 2, none⟩ = some (.slice AL k cL) ∧ w9.frozen? ⟨gs, 2, none⟩ = false := by rw [hw9]; exact ⟨s2, f2⟩
          rw [← hw9]
          have Hlv := Lib.hid hlv
          clear hw9 hlv
          refine hK.out _ _ hS9 (fun hHeld => ?_)
          clear hK K hHeld hS0
          refine HeadW.one 7 rfl (by decide) (by kernel_rfl) fun K hK => ?_
          go_simp
          obtain ⟨wc, hwc⟩ : ∃ wc, wc = w9.alloc (.cells #[.int .i64 (lv : Int)] 3) := ⟨_, rfl⟩
          have hOc : Below w9.heap.size w9 wc := by rw [hwc]; exact (Below.refl _ _).alloc (Nat.le_refl _) _
          have hRc : RV wc (some ⟨w9.heap.size, 0, none⟩) [.int .i64 (lv : Int)] := by rw [hwc]; exact RV.of_blk (Blk.new w9 _ #[_])
          have hzc : wc.heap.size = w9.heap.size + 1 := by rw [hwc]; simp
          rw [hz9] at hRc
          have hOc8 : Below w8.heap.size w8 wc := hO9.trans (hOc.mono (by omega))
          have hblkc := hblk8.below hOc8 hgs8
          have hleftc := hleft8.below hOc8 (Nat.le_refl _)
          have hownc := hown8.below hOc8 (Nat.le_refl _)
          have hrdc := hrd8.below hOc8
          rw [← hwc]
          clear hwc
          refine hK.out _ _ ⟨hblkc.cell 2, hblkc.frozen 2⟩ (fun hHeld => ?_)
          clear hK K hHeld
          refine HeadW.one 8 rfl (by decide) (by kernel_rfl) fun K hK => ?_
          refine step_app (by rfl) (.tmp 84) (.tmp 87) eInt (by rfl) (base := w.heap.size) (n := k) (c := cL) (A := AL) (vs := leftG bs ats k) (by rfl) hleftc (A' := some ⟨w8.heap.size, 0, none⟩) (m := 1) (c' := 1) (us := [.int .i64 (lv : Int)]) (by rfl) hRc rfl (fun v hv => by rcases List.mem_singleton.1 hv with rfl; rfl) (by unfold maxLen; omega) (by omega) (by omega) (by simp) ?_
          intro AL2 cL2 w10 hown10 hgrow10 hat10
          have ho10 : Only (fun b => AL.map (·.block) = some b) wc w10 := Only.of_grown hgrow10 fun b e => e
          have hALlt : ∀ b, AL.map (·.block) = some b → w.heap.size ≤ b := fun b h => (Own.row hleft8 b h).1
          have hblk10 := hblkc.only ho10 (hleftc.ne_map hblkc (by decide))
          have hrow10 := hownc.only ho10 (hleftc.ne_map2 hownc (by decide))
          have hown10b : ∀ z ∈ told, Mine w10 w.heap.size z := fun z hz => ((hown8b z hz).below hOc8).only ho10 (hleftc.ne_mine ((hown8b z hz).below hOc8) (by decide))
          have hyo10 : Mine w10 w.heap.size y := (hyo8.below hOc8).only ho10 (hleftc.ne_mine (hyo8.below hOc8) (by decide))
          have hrd10 := hrdc.only ho10 (hleftc.ne_map hrdc.blk (by decide)) fun b o e h => by have := (HA.out b o e).2; have := hALlt b h; omega
          have hOw10 : Only (fun b => b = g ∨ b = gs) w w10 := (hOw8.trans (Only.of_fresh hOc8)).more ho10 fun b hb h => by have := hALlt b h; omega
          refine hK.out _ _ ⟨hblk10.cell 2, hblk10.frozen 2⟩ (fun hHeld => ?_)
          refine fun _ => ⟨by kernel_rfl, ?_⟩
          have f102 := hblk10.frozen 2
          have c102 : w10.cell? ⟨gs, 2, none⟩ = some (.slice AL k cL) := hblk10.cell 2
          have hgs10 := hblk10.lt
          have Hblk10 := Lib.hid hblk10
          have Hown10 := Lib.hid hown10
          have Hrow10 := Lib.hid hrow10
          have Hown10b := Lib.hid hown10b
          have Hyo10 := Lib.hid hyo10
          have Hrd10 := Lib.hid hrd10
          have HOw10 := Lib.hid hOw10
          clear hK K hHeld hblk10 hown10 hrow10 hown10b hyo10 hrd10 hOw10 hgrow10 hat10 ho10 hblkc hleftc hownc hrdc hOc hOc8 hRc hO9 hS9 hblk8 hown8 hleft8 hown8b hyo8 hrd8 hOw8 ho8 s2 f2
          go_wp2_with fail
          refine ⟨⟨k + 1, fun j => if j = k + 1 then a2 else ats j, A2, c2', AL2, cL2, told ++ [y], by omega, by go_num, ⟨?_, ?_, ?_, ?_, ?_, ?_, ?_, ?_⟩, ?_, ?_⟩, by simp [intOf]; omega⟩
          · exact Blk.setL (cs := [.slice (some ⟨pb, poff, none⟩) all.length cW, .slice A2 (k + 1) c2', .slice AL k cL, .pointer (some ⟨g, 0, none⟩)]) Hblk10.out 2 _
          · have h := Hrow10.out.only (S := fun b => b = gs) (w' := w10.setCell ⟨gs, 2, none⟩ (.slice AL2 (k + 1) cL2)) ((Only.refl (fun b => b = gs) w10).setCell (p := ⟨gs, 2, none⟩) (.inl rfl) _) fun b o e h => Hrow10.out.ne_blk Hblk10.out (by decide) b o e h
            rw [List.flatMap_append]
            simpa using h
          · have h := Hown10.out.only (S := fun b => b = gs) (w' := w10.setCell ⟨gs, 2, none⟩ (.slice AL2 (k + 1) cL2)) ((Only.refl (fun b => b = gs) w10).setCell (p := ⟨gs, 2, none⟩) (.inl rfl) _) fun b o e h => Hown10.out.ne_blk Hblk10.out (by decide) b o e h
            have e := leftG_next bs ats k a2
            rw [← Hlv.out] at e
            rw [e]
            exact h
          · rw [List.length_append, HS6.out.len]; rfl
          · exact (if_neg (by omega)).trans HS6.out.zero
          · intro j hj h2
            rcases Nat.lt_or_ge j k with h | h
            · obtain ⟨z, hz, hz2⟩ := HS6.out.step j h h2
              refine ⟨z, by rw [List.getElem?_append_left (by rw [HS6.out.len]; exact h)]; exact hz, ?_⟩
              rw [if_neg (by omega), if_neg (by omega)]
              exact hz2
            · obtain rfl : j = k := by omega
              refine ⟨y, by rw [List.getElem?_append_right (by rw [HS6.out.len]; exact h), HS6.out.len, Nat.sub_self]; rfl, ?_⟩
              rw [if_neg (by omega), if_pos rfl, ← Hxe.out]
              exact Has.out
          · intro z hz
            have hz2 : Mine w10 w.heap.size z := by
              rcases List.mem_append.1 hz with h | h
              · exact Hown10b.out z h
              · rcases List.mem_singleton.1 h with rfl
                exact Hyo10.out
            exact hz2.only ((Only.refl (fun b => b = gs) w10).setCell (p := ⟨gs, 2, none⟩) (.inl rfl) _) fun b o e h => hz2.ne_blk Hblk10.out (by decide) b o e h
          · intro i j yi yj hij hi
            exact sole_snoc HS6.out.sole Hsole.out hij hi
          · show Rd _ g A c bs (if k + 1 = k + 1 then a2 else ats (k + 1)) false 0
            rw [if_pos rfl]
            exact Hrd10.out.only ((Only.refl (fun b => b = gs) w10).setCell (p := ⟨gs, 2, none⟩) (.inl rfl) _) (fun h => hgs h.symm) fun b o e h => (HA.out b o e).1 h
          · exact HOw10.out.setCell (p := ⟨gs, 2, none⟩) (.inl (.inr rfl)) _
    · obtain rfl : k = all.length := by omega
      have HS := Lib.hid hS
      have Hrd2 := Lib.hid hrd
      have HO := Lib.hid hO
      clear hS hrd hO
      go_wp2_with fail
      go_end0
      exact ⟨HO.out, .inl ⟨rfl, ats, AT, cT, AL, cL, told, Hrd2.out, HS.out⟩⟩
end Go.Proofs.Ytefaapcekbgjoaa
