/- The walk of the law's (*sheet).run over bytes that its things' forms make. -/
import Derived.Test.YtefaapcekbgjoaaRdL
import Derived.Test.YtefaapcekbgjoaaWrites
import Derived.Test.YtefaapcekbgjoaaRdD
import Derived.Test.YtefaapcekbgjoaaHeldT
import Derived.Deep.RegionHeld3
namespace Go.Proofs.Ytefaapcekbgjoaa
open Go.RowKit

/-- A thing that may be put, and is read as it was. -/
structure Okay (x : Item) : Prop where
  k1 : 1 ≤ x.kind
  k6 : x.kind ≤ 6
  num : x.kind = 1 → 0 ≤ x.n
  bool : x.kind = 3 → x.n = 0 ∨ x.n = 1
  n1 : -9223372036854775808 ≤ x.n
  n2 : x.n ≤ 9223372036854775807
  len : x.p.ys.length ≤ 140737488355328
/-- What was told of a thing. -/
structure As (y x : Item) : Prop where
  kind : y.kind = x.kind
  n : x.kind ≤ 3 → y.n = x.n
  ys : 3 < x.kind → y.p.ys = x.p.ys
  b : y.kind ≤ 3 → y.p.ys = []
def formsL (l : List Item) : List UInt8 := l.flatMap itemL
theorem forms_split (l : List Item) (i : Nat) (h : i < l.length) : formsL l = formsL (l.take i) ++ (itemL l[i] ++ formsL (l.drop (i + 1))) := by
  unfold formsL
  conv => lhs; rw [← List.take_append_drop i l, List.flatMap_append, List.drop_eq_getElem_cons h, List.flatMap_cons]
theorem forms_next (l : List Item) (i : Nat) (h : i < l.length) : (formsL (l.take (i + 1))).length = (formsL (l.take i)).length + (itemL l[i]).length := by
  unfold formsL
  rw [List.take_succ_eq_append_getElem h, List.flatMap_append, List.length_append]
  simp
def leftV (all : List Item) (k : Nat) : List Value := (List.range k).map fun j => .int .i64 (((formsL all).length - (formsL (all.take (j + 1))).length : Nat) : Int)
/-- Bytes of the call's own, in a block of bytes. -/
structure Held (w : World) (base : Nat) (p : Part) : Prop where
  rv : RV w p.A (p.ys.map bv)
  blk : ∀ b o, p.A = some ⟨b, o, none⟩ → base ≤ b ∧ b < w.heap.size ∧ ∃ cs fz, w.heap[b]? = some (.cells cs 5 fz)
  nil : p.A = none → p.ys.length = 0 ∧ p.c = 0
theorem Held.empty (w : World) (base : Nat) : Held w base ⟨none, 0, []⟩ := ⟨RV.nil _ _, fun _ _ h => by (cases h), fun _ => ⟨rfl, rfl⟩⟩
theorem Held.only {S : Nat → Prop} {w w' : World} {base : Nat} {p : Part} (h : Held w base p) (ho : Only S w w') (hn : ∀ b o, p.A = some ⟨b, o, none⟩ → ¬ S b) : Held w' base p :=
  ⟨h.rv.only ho fun _ b o e => hn b o e, fun b o e => by
    obtain ⟨h1, h2, cs, fz, h3⟩ := h.blk b o e
    exact ⟨h1, Nat.lt_of_lt_of_le h2 ho.size, cs, fz, (ho.block b h2 (hn b o e)).trans h3⟩, h.nil⟩
theorem Held.below {w w' : World} {base : Nat} {p : Part} (h : Held w base p) (hb : Below w.heap.size w w') : Held w' base p :=
  h.only (S := fun _ => False) (Only.of_fresh hb) fun _ _ _ h => h
theorem Held.of_own {w : World} {base n c : Nat} {A : Option Addr} {ys : List UInt8} (h : OwnB w base A n c ys) : Held w base ⟨A, c, ys⟩ := by
  have hs := Sl.of_own h
  refine ⟨hs.rv, fun b o e => ?_, hs.nil⟩
  · have h1 := Own.row h b (by rw [show A = some ⟨b, o, none⟩ from e]; rfl)
    rcases h.2 with ⟨hv, hn⟩ | ⟨g', cap, cur, hv, hg', hh, r⟩
    · injection hv with h2; rw [h2] at e; cases e
    · have hA' : A = some ⟨g', 0, none⟩ := by injection hv
      rw [show (Part.mk A c ys).A = A from rfl, hA'] at e
      cases e
      exact ⟨h1.1, h1.2, cur, _, hh⟩
theorem Held.ne_blk {w : World} {base g : Nat} {p : Part} {t : TypeId} {cs : Array Value} (h : Held w base p) (hg : Blk w g t cs) (hne : 5 ≠ t) : ∀ b o, p.A = some ⟨b, o, none⟩ → b ≠ g := by
  rintro b o e rfl
  obtain ⟨-, -, cs', fz, h3⟩ := h.blk b o e
  unfold Blk at hg
  rw [hg] at h3
  injection h3 with h3
  injection h3 with _ ht
  exact hne ht.symm
theorem Own.ne_held {w : World} {base base' size n c : Nat} {e : TypeId} {A : Option Addr} {vs : List Value} {p : Part} (h : Own w base e size A n c vs) (hp : Held w base' p) (hne : e ≠ 5) : ∀ b o, p.A = some ⟨b, o, none⟩ → A.map (·.block) ≠ some b := by
  intro b o e2 hb
  obtain ⟨-, -, cs', fz, h3⟩ := hp.blk b o e2
  rcases h.2 with ⟨hv, hn⟩ | ⟨g', cap, cur, hv, hg', hh, r⟩
  · injection hv with h1; rw [h1] at hb; cases hb
  · have hA' : A = some ⟨g', 0, none⟩ := by injection hv
    rw [hA'] at hb
    have : g' = b := by simpa using hb
    subst this
    rw [hh] at h3
    injection h3 with h3
    injection h3 with _ ht
    exact hne ht
theorem wpList_strBytes2 {P : Program} {w : World} {ops : Array Oper} {rest : List Oper} {o : Oper} {a : Act} {Q : Exit → Act → World → Prop} (hgd : o.guard = none) (x : Operand) {src dst e : TypeId} (s : ByteArray) {u : TypeDesc} (ho : o.op = .convert src dst x) (hx : a.eval x = .string s)
    (hs : P.underlying src = some u) (hd : P.underlying dst = some (.slice e)) (he : P.underlying e = some (.int .u8))
    (h : ∀ c w', RV w' (some ⟨w.heap.size, 0, none⟩) (s.data.toList.map bv) → Below w.heap.size w w' → w'.heap.size = w.heap.size + 1 → (∃ cs fz, w'.heap[w.heap.size]? = some (.cells cs e fz)) → wpList P ops Q rest (a.put o.dst (.slice (some ⟨w.heap.size, 0, none⟩) s.size c)) w') : wpList P ops Q (o :: rest) a w := by
  refine wpList_plain hgd fun K hK => wp_of_run (v := .slice (some ⟨w.heap.size, 0, none⟩) s.size (grownCap w s.size 0 e)) (w' := Lib.bytesWorld w e s) ?_ (hK _ _ (h _ _ ?_ ?_ (Lib.bytesWorld_size w e s) ⟨_, _, Lib.bytesWorld_at_new w e s⟩))
  · unfold execOp
    simp only [ho, hx, Sem.run_bind, Lib.run_convert_string_bytes w src dst e s hs hd he, Result.andThen_ok, Sem.run_pure]
  · right
    refine ⟨w.heap.size, 0, rfl, by rw [Lib.bytesWorld_size]; omega, fun j u hu => ?_⟩
    rw [List.getElem?_map] at hu
    obtain ⟨x, hx, rfl⟩ := Option.map_eq_some_iff.1 hu
    have hj : j < s.size := by
      have := (List.getElem?_eq_some_iff.1 hx).1
      rw [Array.length_toList] at this
      exact this
    rw [Nat.zero_add, Lib.bytesWorld_cell w e s j hj, List.getD_eq_getElem?_getD, hx]
    rfl
  · exact ⟨rfl, rfl, rfl, by rw [Lib.bytesWorld_size]; omega, fun k hk => Lib.bytesWorld_at_old w e s k hk⟩
/-- A sheet behind k things. -/
structure Sheet (w : World) (gs g base : Nat) (AW : Option Addr) (cW : Nat) (all : List Item) (k : Nat) (AT : Option Addr) (cT : Nat) (AL : Option Addr) (cL : Nat) (told : List Item) : Prop where
  blk : Blk w gs 83 #[.slice AW all.length cW, .slice AT k cT, .slice AL k cL, .pointer (some ⟨g, 0, none⟩)]
  rowT : Own w base 30 3 AT k cT (told.flatMap itemCells)
  left : Own w base 3 1 AL k cL (leftV all k)
  len : told.length = k
  mat : ∀ j, j < k → ∀ (h2 : j < all.length), ∃ y, told[j]? = some y ∧ As y all[j]
  own : ∀ y ∈ told, Held w base y.p
theorem int_info : (Try.prog.info? 3).map (fun i => (i.zero, i.size, i.bytes)) = some (some (.int .i64 0), 1, 8) := by kernel_rfl
theorem eInt : Elem Try.prog 66 3 1 8 := elem_of Try.underlying66 int_info rfl (by decide)
theorem row_kind {w : World} {AW : Option Addr} {all : List Item} (h : RV w AW (all.flatMap itemCells)) {k : Nat} (hk : k < all.length) :
    ∃ b off, AW = some ⟨b, off, none⟩ ∧ b < w.heap.size ∧ w.cell? ⟨b, off + k * 3, none⟩ = some (.int .i64 all[k].kind) ∧ w.cell? ⟨b, off + k * 3 + 2, none⟩ = some (.slice all[k].p.A all[k].p.ys.length all[k].p.c) := by
  have hl : (all.flatMap itemCells).length = all.length * 3 := length_flatMap_const _ 3 (fun _ => rfl) _
  obtain ⟨b, off, hA, hb, hc⟩ := h.at_ (by rw [hl]; omega)
  have hg := fun j hj => flatMap_get itemCells 3 (fun _ => rfl) all k j all[k] (List.getElem?_eq_getElem hk) hj
  refine ⟨b, off, hA, hb, hc _ _ (hg 0 (by omega)), ?_⟩
  have := hc _ _ (hg 2 (by omega))
  rwa [← Nat.add_assoc] at this
theorem item_size3 : (Try.prog.info? 30).map (·.size) = some 3 := by kernel_rfl
theorem Own.ne_map {w : World} {base size n c g : Nat} {e t : TypeId} {A : Option Addr} {vs : List Value} {cs : Array Value} (h : Own w base e size A n c vs) (hg : Blk w g t cs) (hne : e ≠ t) : A.map (·.block) ≠ some g := by
  rcases h.2 with ⟨hv, hn⟩ | ⟨g', cap, cur, hv, hg', hh, r⟩
  · injection hv with h1; rw [h1]; simp
  · have hA' : A = some ⟨g', 0, none⟩ := by injection hv
    have := h.ne_blk hg hne g' 0 hA'
    rw [hA']
    simpa using this
theorem Own.ne_map2 {w : World} {base base' size size' n n' c c' : Nat} {e e' : TypeId} {A A' : Option Addr} {vs vs' : List Value} (h : Own w base e size A n c vs) (h' : Own w base' e' size' A' n' c' vs') (hne : e ≠ e') : ∀ b o, A' = some ⟨b, o, none⟩ → A.map (·.block) ≠ some b := by
  intro b o hA' hb
  rcases h'.2 with ⟨hv, hn⟩ | ⟨g', cap, cur, hv, hg', hh, r⟩
  · injection hv with h1; rw [h1] at hA'; cases hA'
  · have hA2 : A' = some ⟨g', 0, none⟩ := by injection hv
    rw [hA2] at hA'
    cases hA'
    exact h.ne_map (t := e') (cs := cur) hh hne hb
theorem Sheet.below {w w' : World} {gs g base : Nat} {AW : Option Addr} {cW : Nat} {all : List Item} {k : Nat} {AT : Option Addr} {cT : Nat} {AL : Option Addr} {cL : Nat} {told : List Item}
    (h : Sheet w gs g base AW cW all k AT cT AL cL told) (hb : Below w.heap.size w w') : Sheet w' gs g base AW cW all k AT cT AL cL told :=
  ⟨h.blk.below hb h.blk.lt, h.rowT.below hb (Nat.le_refl _), h.left.below hb (Nat.le_refl _), h.len, h.mat, fun y hy => (h.own y hy).below hb⟩
theorem Sheet.step {w w' : World} {gs g base : Nat} {AW : Option Addr} {cW : Nat} {all : List Item} {k : Nat} {AT : Option Addr} {cT : Nat} {AL : Option Addr} {cL : Nat} {told : List Item} {cs : Array Value}
    (h : Sheet w gs g base AW cW all k AT cT AL cL told) (hg : Blk w g 105 cs) (ho : Only (fun b => b = g) w w') (hgs : gs ≠ g) : Sheet w' gs g base AW cW all k AT cT AL cL told :=
  ⟨h.blk.only ho hgs, h.rowT.only ho fun b o e => h.rowT.ne_blk hg (by decide) b o e, h.left.only ho fun b o e => h.left.ne_blk hg (by decide) b o e, h.len, h.mat, fun y hy => (h.own y hy).only ho fun b o e => (h.own y hy).ne_blk hg (by decide) b o e⟩
set_option maxRecDepth 100000 in
set_option maxHeartbeats 1000000 in
theorem run_any (gs g c cW : Nat) (A AW : Option Addr) (bs : List UInt8) (all : List Item) (w : World) (hsh : Blk w gs 83 #[.slice AW all.length cW, .slice none 0 0, .slice none 0 0, .pointer none])
    (hR : RV w AW (all.flatMap itemCells)) (hAW : ∀ b o, AW = some ⟨b, o, none⟩ → b ≠ gs ∧ b ≠ g) (hgs : gs ≠ g) (hbs : bs = formsL all) (hA : ∀ b o, A = some ⟨b, o, none⟩ → b ≠ gs ∧ b < w.heap.size) (hok : ∀ x ∈ all, Okay x)
    (hrd : Rd w g A c bs 0 false 0) (hl : bs.length ≤ 140737488351232) (hn : all.length ≤ 400) :
    Calls Try.prog 50 #[.pointer (some ⟨gs, 0, none⟩), .pointer (some ⟨g, 0, none⟩)] w fun e w2 => e = .returned (.tuple #[]) ∧ Rd w2 g A c bs bs.length false 0 ∧ Only (fun b => b = g ∨ b = gs) w w2 ∧
      ∃ AT cT AL cL told, Sheet w2 gs g w.heap.size AW cW all all.length AT cT AL cL told := by
  have hgl := hsh.lt
  have hf3 := hsh.frozen 3
  have hc3 : w.cell? ⟨gs, 3, none⟩ = some (.pointer none) := hsh.cell 3
  have Hsh := Lib.hid hsh
  have HR := Lib.hid hR
  have Hrd := Lib.hid hrd
  have Hbs := Lib.hid hbs
  clear hsh hR hrd hbs
  go_enter Try.func50, Try.ntmps50
  go_wp2_with fail
  have hb1 := Blk.setL (cs := [.slice AW all.length cW, .slice none 0 0, .slice none 0 0, .pointer none]) Hsh.out 3 (.pointer (some ⟨g, 0, none⟩))
  have hs1 : Sheet (w.setCell ⟨gs, 3, none⟩ (.pointer (some ⟨g, 0, none⟩))) gs g w.heap.size AW cW all 0 none 0 none 0 [] :=
    ⟨hb1, Own.nil _ _ _ _, Own.nil _ _ _ _, rfl, fun j h => absurd h (by omega), fun y h => absurd h (by simp)⟩
  have ho1 : Only (fun b => b = g ∨ b = gs) w (w.setCell ⟨gs, 3, none⟩ (.pointer (some ⟨g, 0, none⟩))) := (Only.refl _ w).setCell (p := ⟨gs, 3, none⟩) (.inl (.inr rfl)) _
  have hr1 : Rd (w.setCell ⟨gs, 3, none⟩ (.pointer (some ⟨g, 0, none⟩))) g A c bs 0 false 0 := Hrd.out.only ((Only.refl (fun b => b = gs) w).setCell (p := ⟨gs, 3, none⟩) (.inl rfl) _) (fun e => hgs e.symm) fun b o e => (hA b o e).1
  have Hs1 := Lib.hid hs1
  have Ho1 := Lib.hid ho1
  have Hr1 := Lib.hid hr1
  have Hok := Lib.hid hok
  have HAW := Lib.hid hAW
  have HA := Lib.hid hA
  clear hb1 hs1 ho1 hr1 hok hAW hA hf3 hc3
  go_loopw [4] (fun i wr => ∃ (k : Nat) (AT : Option Addr) (cT : Nat) (AL : Option Addr) (cL : Nat) (told : List Item), k ≤ all.length ∧ i = .int .i64 k ∧ Sheet wr gs g w.heap.size AW cW all k AT cT AL cL told ∧ Rd wr g A c bs (formsL (all.take k)).length false 0 ∧ Only (fun b => b = g ∨ b = gs) w wr) (fun i _ => all.length - (intOf i).toNat)
  case atStart => exact ⟨0, none, 0, none, 0, [], Nat.zero_le _, rfl, Hs1.out, Hr1.out, Ho1.out⟩
  case round =>
    obtain ⟨k, AT, cT, AL, cL, told, hk, rfl, hS, hrd, hO⟩ := hrel
    have s0 : wr.cell? ⟨gs, 0, none⟩ = some (.slice AW all.length cW) := hS.blk.cell 0
    have hgr := hS.blk.lt
    by_cases hlt : k < all.length
    · have g1 : (k : Int) < (all.length : Int) := by omega
      have hRr := HR.out.only hO (fun _ b o e h => by rcases h with h | h; exact (HAW.out b o e).2 h; exact (HAW.out b o e).1 h)
      obtain ⟨pb, poff, rfl, hpb, ck, cp⟩ := row_kind hRr hlt
      have hx := Hok.out _ (List.getElem_mem hlt)
      obtain ⟨x, hxe⟩ : ∃ x, x = all[k] := ⟨_, rfl⟩
      rw [← hxe] at ck cp hx
      have Hxe := Lib.hid hxe
      have HS := Lib.hid hS
      have Hrd2 := Lib.hid hrd
      have HO := Lib.hid hO
      have Hx := Lib.hid hx
      clear hRr hxe hS hrd hO hx
      have hpos : (formsL (all.take k)).length + (itemL x).length ≤ bs.length := by
        rw [Hbs.out, forms_split all k hlt, List.length_append, List.length_append, ← Hxe.out]; omega
      have hsp : bs = formsL (all.take k) ++ (itemL x ++ formsL (all.drop (k + 1))) := by rw [Hbs.out, forms_split all k hlt, ← Hxe.out]
      have hnx : (formsL (all.take (k + 1))).length = (formsL (all.take k)).length + (itemL x).length := by rw [forms_next all k hlt, ← Hxe.out]
      obtain ⟨wa, hwa⟩ : ∃ wa, wa = wr.alloc (.cells #[.int .i64 x.kind, .int .i64 0, .slice none 0 0] 30) := ⟨_, rfl⟩
      have hba : Below wr.heap.size wr wa := by rw [hwa]; exact (Below.refl _ _).alloc (Nat.le_refl _) _
      have hBa : Blk wa wr.heap.size 30 #[.int .i64 x.kind, .int .i64 0, .slice none 0 0] := by rw [hwa]; exact Blk.new _ _ _
      have hza : wa.heap.size = wr.heap.size + 1 := by rw [hwa]; simp
      have hrda := Hrd2.out.below hba
      have hga := hrda.blk.lt
      have hgr2 := Hrd2.out.blk.lt
      have hATlt : ∀ b, AT.map (·.block) = some b → w.heap.size ≤ b ∧ b < wr.heap.size := Own.row HS.out.rowT
      have HATlt := Lib.hid hATlt
      have Hwa := Lib.hid hwa
      have Hba := Lib.hid hba
      have HBa := Lib.hid hBa
      have Hrda := Lib.hid hrda
      have Hsp := Lib.hid hsp
      have Hnx := Lib.hid hnx
      clear hwa hba hBa hrda hsp hnx hATlt
      by_cases h1 : x.kind = 1
      · have g2 : (x.kind == 1) = true := by rw [beq_iff_eq]; exact h1
        obtain ⟨u, hu⟩ := Int.eq_ofNat_of_zero_le (Hx.out.num h1)
        have hform : itemL x = formL u := by unfold itemL; rw [if_pos h1, hu, Int.toNat_natCast]
        have hpar := rNum_form (formsL (all.take k)) (formsL (all.drop (k + 1))) u (by have := Hx.out.n2; omega)
        rw [← hform, ← Hsp.out] at hpar
        have hc := rNum_any g c _ A bs wa Hrda.out hl
        rw [hpar] at hc
        have Hu := Lib.hid hu
        have Hkd := Lib.hid h1
        clear hform hpar hu h1
        go_wp2_with fail
        rw [← Hwa.out]
        refine hc.mono ?_
        rintro e w5 ⟨rfl, hrd5, ho5⟩
        have hB5 := HBa.out.only ho5 (by omega)
        have hf5 := hB5.frozen 1
        have hc51 : w5.cell? ⟨wr.heap.size, 1, none⟩ = some (.int .i64 0) := hB5.cell 1
        have hgi := hB5.lt
        have Hrd5 := Lib.hid hrd5
        have Ho5 := Lib.hid ho5
        have HB5 := Lib.hid hB5
        clear hc hrd5 ho5 hB5
        go_wp2_with fail
        obtain ⟨y, hy⟩ : ∃ y : Item, y = ⟨x.kind, (u : Int), ⟨none, 0, []⟩⟩ := ⟨_, rfl⟩
        obtain ⟨w6, hw6⟩ : ∃ w6, w6 = w5.setCell ⟨wr.heap.size, 1, none⟩ (.int .i64 (u : Int)) := ⟨_, rfl⟩
        have hB6 : Blk w6 wr.heap.size 30 (itemCells y).toArray := by rw [hw6, hy]; exact Blk.setL (cs := [.int .i64 x.kind, .int .i64 0, .slice none 0 0]) HB5.out 1 _
        have ho6 : Only (fun b => b = g) wr w6 := by rw [hw6]; exact (((Only.of_fresh Hba.out).trans Ho5.out).setCell (p := ⟨wr.heap.size, 1, none⟩) (.inr (Nat.le_refl _)) _)
        have hrd6 : Rd w6 g A c bs (formsL (all.take (k + 1))).length false 0 := by
          rw [hw6, Hnx.out]
          exact Hrd5.out.only ((Only.refl (fun b => b = wr.heap.size) w5).setCell (p := ⟨wr.heap.size, 1, none⟩) (.inl rfl) _) (by omega) fun b o e => by have := (HA.out b o e).2; have := HO.out.size; omega
        have has : As y x := by
          rw [hy]
          exact ⟨rfl, fun _ => Hu.out.symm, fun h => absurd h (by have := Hkd.out; omega), fun _ => rfl⟩
        have hyo : Held w6 w.heap.size y.p := by rw [hy]; exact Held.empty _ _
        have hS6 := HS.out.step Hrd2.out.blk ho6 hgs
        have c0 : w6.cell? ⟨wr.heap.size, 0, none⟩ = some (.int .i64 y.kind) := hB6.cell 0
        have c1 : w6.cell? ⟨wr.heap.size, 1, none⟩ = some (.int .i64 y.n) := hB6.cell 1
        have c2 : w6.cell? ⟨wr.heap.size, 2, none⟩ = some (.slice y.p.A y.p.ys.length y.p.c) := hB6.cell 2
        rw [← hw6]
        have hgi6 := hB6.lt
        have HB6 := Lib.hid hB6
        have HO6 := Lib.hid (HO.out.trans (ho6.mono fun _ _ e => .inl e))
        have Hrd6 := Lib.hid hrd6
        have Has := Lib.hid has
        have Hyo := Lib.hid hyo
        have HS6 := Lib.hid hS6
        clear hw6 hB6 ho6 hrd6 has hyo hS6 HB5 Ho5 Hrd5 hf5 hc51 hy HBa Hrda Hwa HS Hrd2 HO s0 ck cp hgi
        have s1 : w6.cell? ⟨gs, 1, none⟩ = some (.slice AT k cT) := HS6.out.blk.cell 1
        have f1 := HS6.out.blk.frozen 1
        have hgs6 := HS6.out.blk.lt
        have hb6 : w.heap.size ≤ w6.heap.size := HO6.out.size
        have hfa : ∀ o, ((w6.alloc o).drew).frozen? ⟨gs, 1, none⟩ = false := fun o => by rw [(ocell (((Only.refl (fun _ => False) w6).alloc o).drew)).2 gs 1 hgs6 (fun h => h)]; exact f1
        refine region_heldT 8 (fun w' => w'.cell? ⟨gs, 1, none⟩ = some (.slice AT k cT) ∧ w'.frozen? ⟨gs, 1, none⟩ = false ∧ w'.cell? ⟨wr.heap.size, 0, none⟩ = some (.int .i64 y.kind) ∧ w'.cell? ⟨wr.heap.size, 1, none⟩ = some (.int .i64 y.n) ∧ w'.cell? ⟨wr.heap.size, 2, none⟩ = some (.slice y.p.A y.p.ys.length y.p.c)) (by kernel_rfl) (by decide) ?_
        have hS0 : (fun w' : World => w'.cell? ⟨gs, 1, none⟩ = some (.slice AT k cT) ∧ w'.frozen? ⟨gs, 1, none⟩ = false ∧ w'.cell? ⟨wr.heap.size, 0, none⟩ = some (.int .i64 y.kind) ∧ w'.cell? ⟨wr.heap.size, 1, none⟩ = some (.int .i64 y.n) ∧ w'.cell? ⟨wr.heap.size, 2, none⟩ = some (.slice y.p.A y.p.ys.length y.p.c)) w6.drew := ⟨s1, f1, c0, c1, c2⟩
        refine HeadW.take 0 (v := .pointer (some ⟨gs, 0, none⟩)) rfl (by kernel_rfl) (by kernel_rfl) (by kernel_rfl) (by decide) (by decide) (fun _ _ _ hL => seqB_ready hL.1) (by kernel_rfl) (by kernel_rfl) (fun _ _ _ h => h) hS0 (.inl ⟨by rfl, by intro w hSw; (try dsimp only at hSw); go_simp⟩) ?_
        simp only [Act.put, List.setIfInBounds_toArray]
        refine HeadW.take 1 (v := .pointer (some ⟨gs, 0, none⟩)) rfl (by kernel_rfl) (by kernel_rfl) (by kernel_rfl) (by decide) (by decide) (fun _ _ _ hL => seqB_ready hL.1) (by kernel_rfl) (by kernel_rfl) (fun _ _ _ h => h) hS0 (.inl ⟨by rfl, by intro w hSw; (try dsimp only at hSw); go_simp⟩) ?_
        simp only [Act.put]
        refine HeadW.take 2 (v := .pointer (some ⟨gs, 0, none⟩)) rfl (by kernel_rfl) (by kernel_rfl) (by kernel_rfl) (by decide) (by decide) (fun _ _ _ hL => seqB_ready hL.1) (by kernel_rfl) (by kernel_rfl) (fun _ _ _ h => h) hS0 (.inl ⟨by rfl, by intro w hSw; (try dsimp only at hSw); go_simp⟩) ?_
        simp only [Act.put]
        refine HeadW.take 3 (v := .pointer (some ⟨gs, 1, none⟩)) rfl (by kernel_rfl) (by kernel_rfl) (by kernel_rfl) (by decide) (by decide) (fun _ _ _ hL => seqB_ready hL.1) (by kernel_rfl) (by kernel_rfl) (fun _ _ _ h => h) hS0 (.inl ⟨by rfl, by intro w hSw; (try dsimp only at hSw); go_simp⟩) ?_
        simp only [Act.put]
        refine HeadW.take 4 (v := .slice AT k cT) rfl (by kernel_rfl) (by kernel_rfl) (by kernel_rfl) (by decide) (by decide) (fun _ _ _ hL => seqB_ready hL.1) (by kernel_rfl) (by kernel_rfl) (fun _ _ _ h => h) hS0 (.inl ⟨by rfl, by intro w hSw; (try dsimp only at hSw); go_simp⟩) ?_
        simp only [Act.put]
        refine HeadW.take 5 (v := .agg #[.int .i64 y.kind, .int .i64 y.n, .slice y.p.A y.p.ys.length y.p.c]) rfl (by kernel_rfl) (by kernel_rfl) (by kernel_rfl) (by decide) (by decide) (fun _ _ _ hL => seqB_ready hL.1) (by kernel_rfl) (by kernel_rfl) (fun _ _ _ h => h) hS0 (.inl ⟨by rfl, by intro w hSw; (try dsimp only at hSw); go_simp⟩) ?_
        simp only [Act.put]
        refine HeadW.one 6 rfl (by decide) (by kernel_rfl) fun K hK => ?_
        go_simp
        obtain ⟨wb, hwb⟩ : ∃ wb, wb = (w6.alloc (.cells #[.int .i64 y.kind, .int .i64 y.n, .slice y.p.A y.p.ys.length y.p.c] 30)).drew := ⟨_, rfl⟩
        have hOb : Below w6.heap.size w6 wb := by rw [hwb]; exact below_drewN ((Below.refl _ _).alloc (Nat.le_refl _) _) 1
        have hRb : RV wb (some ⟨w6.heap.size, 0, none⟩) (itemCells y) := by rw [hwb]; exact (RV.of_blk (Blk.new w6 _ #[_, _, _])).drew
        have hfb : wb.frozen? ⟨gs, 1, none⟩ = false := by rw [hwb]; exact hfa _
        have hzb : wb.heap.size = w6.heap.size + 1 := by rw [hwb]; simp
        have hSb := HS6.out.below hOb
        have hrdb := Hrd6.out.below hOb
        rw [← hwb]
        refine hK.out _ _ ⟨hSb.blk.cell 1, hfb, by rw [(bcell hOb).1 _ _ hgi6]; exact c0, by rw [(bcell hOb).1 _ _ hgi6]; exact c1, by rw [(bcell hOb).1 _ _ hgi6]; exact c2⟩ (fun hHeld => ?_)
        clear hK K hfa hS0 hwb s1 f1
        refine HeadW.one 7 rfl (by decide) (by kernel_rfl) fun K hK => ?_
        refine step_app (by rfl) (.tmp 74) (.tmp 76) eItem (by rfl) (base := w.heap.size) (n := k) (c := cT) (A := AT) (vs := told.flatMap itemCells) (by rfl) hSb.rowT (A' := some ⟨w6.heap.size, 0, none⟩) (m := 1) (c' := 1) (us := itemCells y) (by rfl) hRb rfl (items_one [y]) (by unfold maxLen; omega) (by omega) (by omega) (by simp) ?_
        intro A2 c2' w7 hown7 hgrow7 hat7
        have ho7 : Only (fun b => AT.map (·.block) = some b) wb w7 := Only.of_grown hgrow7 fun b e => e
        have hblk7 := hSb.blk.only ho7 (hSb.rowT.ne_map hSb.blk (by decide))
        have hleft7 := hSb.left.only ho7 (hSb.rowT.ne_map2 hSb.left (by decide))
        have hown7b : ∀ z ∈ told, Held w7 w.heap.size z.p := fun z hz => (hSb.own z hz).only ho7 (hSb.rowT.ne_held (hSb.own z hz) (by decide))
        have hyo7 : Held w7 w.heap.size y.p := (Hyo.out.below hOb).only ho7 (hSb.rowT.ne_held (Hyo.out.below hOb) (by decide))
        have hrd7 := hrdb.only ho7 (hSb.rowT.ne_map hrdb.blk (by decide)) fun b o e h => by have := (HA.out b o e).2; have := (HATlt.out b h).1; omega
        have hOw7 : Only (fun b => b = g ∨ b = gs) w w7 := (HO6.out.trans (Only.of_fresh hOb)).more ho7 fun b hb h => by have := (HATlt.out b h).1; omega
        have hgi7 : w7.cell? ⟨wr.heap.size, 0, none⟩ = some (.int .i64 y.kind) ∧ w7.cell? ⟨wr.heap.size, 1, none⟩ = some (.int .i64 y.n) ∧ w7.cell? ⟨wr.heap.size, 2, none⟩ = some (.slice y.p.A y.p.ys.length y.p.c) := by
          have hni : ¬ (AT.map (·.block) = some wr.heap.size) := fun h => by have := (HATlt.out _ h).2; omega
          refine ⟨?_, ?_, ?_⟩ <;> rw [(ocell ho7).1 _ _ (by omega) hni, (bcell hOb).1 _ _ hgi6] <;> assumption
        refine hK.out _ _ ⟨hblk7.cell 1, hblk7.frozen 1, hgi7⟩ (fun hHeld => ?_)
        refine fun _ => ⟨by kernel_rfl, ?_⟩
        have f71 := hblk7.frozen 1
        have c71 : w7.cell? ⟨gs, 1, none⟩ = some (.slice AT k cT) := hblk7.cell 1
        have hgs7 := hblk7.lt
        have Hblk7 := Lib.hid hblk7
        have Hown7 := Lib.hid hown7
        have Hleft7 := Lib.hid hleft7
        have Hown7b := Lib.hid hown7b
        have Hyo7 := Lib.hid hyo7
        have Hrd7 := Lib.hid hrd7
        have HOw7 := Lib.hid hOw7
        clear hK K hHeld hblk7 hown7 hleft7 hown7b hyo7 hrd7 hOw7 hgi7 hgrow7 hat7 ho7 hSb hrdb hOb hRb hfb hzb c0 c1 c2 Hba
        go_wp2_with fail
        obtain ⟨w8, hw8⟩ : ∃ w8, w8 = w7.setCell ⟨gs, 1, none⟩ (.slice A2 (k + 1) c2') := ⟨_, rfl⟩
        rw [← hw8]
        have ho8 : Only (fun b => b = gs) w7 w8 := by rw [hw8]; exact (Only.refl (fun b => b = gs) w7).setCell (p := ⟨gs, 1, none⟩) (.inl rfl) _
        have hblk8 : Blk w8 gs 83 #[.slice (some ⟨pb, poff, none⟩) all.length cW, .slice A2 (k + 1) c2', .slice AL k cL, .pointer (some ⟨g, 0, none⟩)] := by
          rw [hw8]; exact Blk.setL (cs := [.slice (some ⟨pb, poff, none⟩) all.length cW, .slice AT k cT, .slice AL k cL, .pointer (some ⟨g, 0, none⟩)]) Hblk7.out 1 _
        clear hw8
        have hown8 := Hown7.out.only ho8 fun b o e h => Hown7.out.ne_blk Hblk7.out (by decide) b o e h
        have hleft8 := Hleft7.out.only ho8 fun b o e h => Hleft7.out.ne_blk Hblk7.out (by decide) b o e h
        have hown8b : ∀ z ∈ told, Held w8 w.heap.size z.p := fun z hz => (Hown7b.out z hz).only ho8 fun b o e h => (Hown7b.out z hz).ne_blk Hblk7.out (by decide) b o e h
        have hyo8 := Hyo7.out.only ho8 fun b o e h => Hyo7.out.ne_blk Hblk7.out (by decide) b o e h
        have hrd8 := Hrd7.out.only ho8 (fun h => hgs h.symm) fun b o e h => (HA.out b o e).1 h
        have hOw8 : Only (fun b => b = g ∨ b = gs) w w8 := HOw7.out.trans (ho8.mono fun _ _ e => .inr e)
        have s2 : w8.cell? ⟨gs, 2, none⟩ = some (.slice AL k cL) := hblk8.cell 2
        have f2 := hblk8.frozen 2
        have hgs8 := hblk8.lt
        have hb8 : w.heap.size ≤ w8.heap.size := hOw8.size
        have hS0 : (fun w' : World => w'.cell? ⟨gs, 2, none⟩ = some (.slice AL k cL) ∧ w'.frozen? ⟨gs, 2, none⟩ = false) w8.drew := ⟨s2, f2⟩
        refine region_heldT 9 (fun w' => w'.cell? ⟨gs, 2, none⟩ = some (.slice AL k cL) ∧ w'.frozen? ⟨gs, 2, none⟩ = false) (by kernel_rfl) (by decide) ?_
        refine HeadW.take 0 (v := .pointer (some ⟨gs, 0, none⟩)) rfl (by kernel_rfl) (by kernel_rfl) (by kernel_rfl) (by decide) (by decide) (fun _ _ _ hL => seqB_ready hL.1) (by kernel_rfl) (by kernel_rfl) (fun _ _ _ h => h) hS0 (.inl ⟨by rfl, by intro w hSw; (try dsimp only at hSw); go_simp⟩) ?_
        simp only [Act.put, List.setIfInBounds_toArray]
        refine HeadW.take 1 (v := .pointer (some ⟨gs, 0, none⟩)) rfl (by kernel_rfl) (by kernel_rfl) (by kernel_rfl) (by decide) (by decide) (fun _ _ _ hL => seqB_ready hL.1) (by kernel_rfl) (by kernel_rfl) (fun _ _ _ h => h) hS0 (.inl ⟨by rfl, by intro w hSw; (try dsimp only at hSw); go_simp⟩) ?_
        simp only [Act.put]
        refine HeadW.take 2 (v := .pointer (some ⟨gs, 0, none⟩)) rfl (by kernel_rfl) (by kernel_rfl) (by kernel_rfl) (by decide) (by decide) (fun _ _ _ hL => seqB_ready hL.1) (by kernel_rfl) (by kernel_rfl) (fun _ _ _ h => h) hS0 (.inl ⟨by rfl, by intro w hSw; (try dsimp only at hSw); go_simp⟩) ?_
        simp only [Act.put]
        refine HeadW.take 3 (v := .pointer (some ⟨gs, 2, none⟩)) rfl (by kernel_rfl) (by kernel_rfl) (by kernel_rfl) (by decide) (by decide) (fun _ _ _ hL => seqB_ready hL.1) (by kernel_rfl) (by kernel_rfl) (fun _ _ _ h => h) hS0 (.inl ⟨by rfl, by intro w hSw; (try dsimp only at hSw); go_simp⟩) ?_
        simp only [Act.put]
        refine HeadW.take 4 (v := .slice AL k cL) rfl (by kernel_rfl) (by kernel_rfl) (by kernel_rfl) (by decide) (by decide) (fun _ _ _ hL => seqB_ready hL.1) (by kernel_rfl) (by kernel_rfl) (fun _ _ _ h => h) hS0 (.inl ⟨by rfl, by intro w hSw; (try dsimp only at hSw); go_simp⟩) ?_
        simp only [Act.put]
        refine HeadW.take 5 (v := .pointer (some ⟨g, 0, none⟩)) rfl (by kernel_rfl) (by kernel_rfl) (by kernel_rfl) (by decide) (by decide) (fun _ _ _ hL => seqB_ready hL.1) (by kernel_rfl) (by kernel_rfl) (fun _ _ _ h => h) hS0 (.inl ⟨by rfl, by intro w hSw; (try dsimp only at hSw); go_simp⟩) ?_
        simp only [Act.put]
        refine HeadW.one 6 rfl (by decide) (by kernel_rfl) fun K hK => ?_
        go_simp
        refine (rLeft_any g c _ A bs w8.drew (hrd8.drewN 1) hl).mono ?_
        rintro e _ ⟨rfl, m, rfl⟩
        have hzl : (formsL (all.take (k + 1))).length ≤ bs.length := hrd8.le
        obtain ⟨lv, hlv⟩ : ∃ lv : Nat, lv = bs.length - (formsL (all.take (k + 1))).length := ⟨_, rfl⟩
        rw [← hlv]
        obtain ⟨w9, hw9⟩ : ∃ w9, w9 = w8.drew.drewN m := ⟨_, rfl⟩
        have hO9 : Below w8.heap.size w8 w9 := by rw [hw9]; exact below_drewN (below_drewN (Below.refl _ _) 1) m
        have hz9 : w9.heap.size = w8.heap.size := by rw [hw9]; rfl
        have hS9 : w9.cell? ⟨gs, 2, none⟩ = some (.slice AL k cL) ∧ w9.frozen? ⟨gs, 2, none⟩ = false := by rw [hw9]; exact ⟨s2, f2⟩
        rw [← hw9]
        have Hlv := Lib.hid hlv
        clear hw9 hlv
        refine hK.out _ _ hS9 (fun hHeld => ?_)
        clear hK K hHeld hS0
        refine HeadW.one 7 rfl (by decide) (by kernel_rfl) fun K hK => ?_
        go_simp
        obtain ⟨wc, hwc⟩ : ∃ wc, wc = w9.alloc (.cells #[.int .i64 (lv : Int)] 3) := ⟨_, rfl⟩
        have hOc : Below w9.heap.size w9 wc := by rw [hwc]; exact (Below.refl _ _).alloc (Nat.le_refl _) _
        have hRc : RV wc (some ⟨w9.heap.size, 0, none⟩) [.int .i64 (lv : Int)] := by rw [hwc]; exact RV.of_blk (Blk.new w9 _ #[_])
        have hzc : wc.heap.size = w9.heap.size + 1 := by rw [hwc]; simp
        rw [hz9] at hRc
        have hOc8 : Below w8.heap.size w8 wc := hO9.trans (hOc.mono (by omega))
        have hblkc := hblk8.below hOc8 hgs8
        have hleftc := hleft8.below hOc8 (Nat.le_refl _)
        have hownc := hown8.below hOc8 (Nat.le_refl _)
        have hrdc := hrd8.below hOc8
        rw [← hwc]
        clear hwc
        refine hK.out _ _ ⟨hblkc.cell 2, hblkc.frozen 2⟩ (fun hHeld => ?_)
        clear hK K hHeld
        refine HeadW.one 8 rfl (by decide) (by kernel_rfl) fun K hK => ?_
        refine step_app (by rfl) (.tmp 84) (.tmp 87) eInt (by rfl) (base := w.heap.size) (n := k) (c := cL) (A := AL) (vs := leftV all k) (by rfl) hleftc (A' := some ⟨w8.heap.size, 0, none⟩) (m := 1) (c' := 1) (us := [.int .i64 (lv : Int)]) (by rfl) hRc rfl (fun v hv => by rcases List.mem_singleton.1 hv with rfl; rfl) (by unfold maxLen; omega) (by omega) (by omega) (by simp) ?_
        intro AL2 cL2 w10 hown10 hgrow10 hat10
        have ho10 : Only (fun b => AL.map (·.block) = some b) wc w10 := Only.of_grown hgrow10 fun b e => e
        have hALlt : ∀ b, AL.map (·.block) = some b → w.heap.size ≤ b := fun b h => (Own.row hleft8 b h).1
        have hblk10 := hblkc.only ho10 (hleftc.ne_map hblkc (by decide))
        have hrow10 := hownc.only ho10 (hleftc.ne_map2 hownc (by decide))
        have hown10b : ∀ z ∈ told, Held w10 w.heap.size z.p := fun z hz => ((hown8b z hz).below hOc8).only ho10 (hleftc.ne_held ((hown8b z hz).below hOc8) (by decide))
        have hyo10 : Held w10 w.heap.size y.p := (hyo8.below hOc8).only ho10 (hleftc.ne_held (hyo8.below hOc8) (by decide))
        have hrd10 := hrdc.only ho10 (hleftc.ne_map hrdc.blk (by decide)) fun b o e h => by have := (HA.out b o e).2; have := hALlt b h; omega
        have hOw10 : Only (fun b => b = g ∨ b = gs) w w10 := (hOw8.trans (Only.of_fresh hOc8)).more ho10 fun b hb h => by have := hALlt b h; omega
        refine hK.out _ _ ⟨hblk10.cell 2, hblk10.frozen 2⟩ (fun hHeld => ?_)
        refine fun _ => ⟨by kernel_rfl, ?_⟩
        have f102 := hblk10.frozen 2
        have c102 : w10.cell? ⟨gs, 2, none⟩ = some (.slice AL k cL) := hblk10.cell 2
        have hgs10 := hblk10.lt
        have Hblk10 := Lib.hid hblk10
        have Hown10 := Lib.hid hown10
        have Hrow10 := Lib.hid hrow10
        have Hown10b := Lib.hid hown10b
        have Hyo10 := Lib.hid hyo10
        have Hrd10 := Lib.hid hrd10
        have HOw10 := Lib.hid hOw10
        clear hK K hHeld hblk10 hown10 hrow10 hown10b hyo10 hrd10 hOw10 hgrow10 hat10 ho10 hblkc hleftc hownc hrdc hOc hOc8 hRc hO9 hS9 hblk8 hown8 hleft8 hown8b hyo8 hrd8 hOw8 ho8 s2 f2
        go_wp2_with fail
        refine ⟨⟨k + 1, A2, c2', AL2, cL2, told ++ [y], by omega, by go_num, ⟨?_, ?_, ?_, ?_, ?_, ?_⟩, ?_, ?_⟩, by simp [intOf]; omega⟩
        · exact Blk.setL (cs := [.slice (some ⟨pb, poff, none⟩) all.length cW, .slice A2 (k + 1) c2', .slice AL k cL, .pointer (some ⟨g, 0, none⟩)]) Hblk10.out 2 _
        · have h := Hrow10.out.only (S := fun b => b = gs) (w' := w10.setCell ⟨gs, 2, none⟩ (.slice AL2 (k + 1) cL2)) ((Only.refl (fun b => b = gs) w10).setCell (p := ⟨gs, 2, none⟩) (.inl rfl) _) fun b o e h => Hrow10.out.ne_blk Hblk10.out (by decide) b o e h
          rw [List.flatMap_append]
          simpa using h
        · have h := Hown10.out.only (S := fun b => b = gs) (w' := w10.setCell ⟨gs, 2, none⟩ (.slice AL2 (k + 1) cL2)) ((Only.refl (fun b => b = gs) w10).setCell (p := ⟨gs, 2, none⟩) (.inl rfl) _) fun b o e h => Hown10.out.ne_blk Hblk10.out (by decide) b o e h
          have e : leftV all (k + 1) = leftV all k ++ [.int .i64 (lv : Int)] := by
            unfold leftV
            rw [List.range_succ, List.map_append, Hlv.out, Hbs.out]
            rfl
          rw [e]
          exact h
        · rw [List.length_append, HS6.out.len]; rfl
        · intro j hj h2
          rcases Nat.lt_or_ge j k with h | h
          · obtain ⟨z, hz, hz2⟩ := HS6.out.mat j h h2
            exact ⟨z, by rw [List.getElem?_append_left (by rw [HS6.out.len]; exact h)]; exact hz, hz2⟩
          · obtain rfl : j = k := by omega
            exact ⟨y, by rw [List.getElem?_append_right (by rw [HS6.out.len]; exact h), HS6.out.len, Nat.sub_self]; rfl, by rw [← Hxe.out]; exact Has.out⟩
        · intro z hz
          have hz2 : Held w10 w.heap.size z.p := by
            rcases List.mem_append.1 hz with h | h
            · exact Hown10b.out z h
            · rcases List.mem_singleton.1 h with rfl
              exact Hyo10.out
          exact hz2.only ((Only.refl (fun b => b = gs) w10).setCell (p := ⟨gs, 2, none⟩) (.inl rfl) _) fun b o e h => hz2.ne_blk Hblk10.out (by decide) b o e h
        · exact Hrd10.out.only ((Only.refl (fun b => b = gs) w10).setCell (p := ⟨gs, 2, none⟩) (.inl rfl) _) (fun h => hgs h.symm) fun b o e h => (HA.out b o e).1 h
        · exact HOw10.out.setCell (p := ⟨gs, 2, none⟩) (.inl (.inr rfl)) _
      by_cases h2 : x.kind = 2
      · clear h1
        have q1 : (x.kind == 1) = false := by rw [beq_eq_false_iff_ne]; omega
        have g2 : (x.kind == 2) = true := by rw [beq_iff_eq]; exact h2
        have hform : itemL x = formL (foldN x.n) := by unfold itemL; rw [if_neg (by omega), if_pos h2]
        have hpar := number_form (formsL (all.take k)) (formsL (all.drop (k + 1))) (foldN x.n) (foldN_lt x.n Hx.out.n1 (by have := Hx.out.n2; omega))
        rw [← hform, ← Hsp.out] at hpar
        have hc := rInt_any g c _ A bs wa Hrda.out hl
        rw [hpar] at hc
        have Hkd := Lib.hid h2
        clear hform hpar h2
        go_wp2_with fail
        rw [← Hwa.out]
        refine hc.mono ?_
        rintro e w5 ⟨he5, hrd5, ho5⟩
        rw [unfold_fold] at he5
        subst he5
        have hB5 := HBa.out.only ho5 (by omega)
        have hf5 := hB5.frozen 1
        have hc51 : w5.cell? ⟨wr.heap.size, 1, none⟩ = some (.int .i64 0) := hB5.cell 1
        have hgi := hB5.lt
        have Hrd5 := Lib.hid hrd5
        have Ho5 := Lib.hid ho5
        have HB5 := Lib.hid hB5
        clear hc hrd5 ho5 hB5
        go_wp2_with fail
        obtain ⟨y, hy⟩ : ∃ y : Item, y = ⟨x.kind, x.n, ⟨none, 0, []⟩⟩ := ⟨_, rfl⟩
        obtain ⟨w6, hw6⟩ : ∃ w6, w6 = w5.setCell ⟨wr.heap.size, 1, none⟩ (.int .i64 x.n) := ⟨_, rfl⟩
        have hB6 : Blk w6 wr.heap.size 30 (itemCells y).toArray := by rw [hw6, hy]; exact Blk.setL (cs := [.int .i64 x.kind, .int .i64 0, .slice none 0 0]) HB5.out 1 _
        have ho6 : Only (fun b => b = g) wr w6 := by rw [hw6]; exact (((Only.of_fresh Hba.out).trans Ho5.out).setCell (p := ⟨wr.heap.size, 1, none⟩) (.inr (Nat.le_refl _)) _)
        have hrd6 : Rd w6 g A c bs (formsL (all.take (k + 1))).length false 0 := by
          rw [hw6, Hnx.out]
          exact Hrd5.out.only ((Only.refl (fun b => b = wr.heap.size) w5).setCell (p := ⟨wr.heap.size, 1, none⟩) (.inl rfl) _) (by omega) fun b o e => by have := (HA.out b o e).2; have := HO.out.size; omega
        have has : As y x := by
          rw [hy]
          exact ⟨rfl, fun _ => rfl, fun h => absurd h (by have := Hkd.out; omega), fun _ => rfl⟩
        have hyo : Held w6 w.heap.size y.p := by rw [hy]; exact Held.empty _ _
        have hS6 := HS.out.step Hrd2.out.blk ho6 hgs
        have c0 : w6.cell? ⟨wr.heap.size, 0, none⟩ = some (.int .i64 y.kind) := hB6.cell 0
        have c1 : w6.cell? ⟨wr.heap.size, 1, none⟩ = some (.int .i64 y.n) := hB6.cell 1
        have c2 : w6.cell? ⟨wr.heap.size, 2, none⟩ = some (.slice y.p.A y.p.ys.length y.p.c) := hB6.cell 2
        rw [← hw6]
        have hgi6 := hB6.lt
        have HB6 := Lib.hid hB6
        have HO6 := Lib.hid (HO.out.trans (ho6.mono fun _ _ e => .inl e))
        have Hrd6 := Lib.hid hrd6
        have Has := Lib.hid has
        have Hyo := Lib.hid hyo
        have HS6 := Lib.hid hS6
        clear hw6 hB6 ho6 hrd6 has hyo hS6 HB5 Ho5 Hrd5 hf5 hc51 hy HBa Hrda Hwa HS Hrd2 HO s0 ck cp hgi
        have s1 : w6.cell? ⟨gs, 1, none⟩ = some (.slice AT k cT) := HS6.out.blk.cell 1
        have f1 := HS6.out.blk.frozen 1
        have hgs6 := HS6.out.blk.lt
        have hb6 : w.heap.size ≤ w6.heap.size := HO6.out.size
        have hfa : ∀ o, ((w6.alloc o).drew).frozen? ⟨gs, 1, none⟩ = false := fun o => by rw [(ocell (((Only.refl (fun _ => False) w6).alloc o).drew)).2 gs 1 hgs6 (fun h => h)]; exact f1
        refine region_heldT 8 (fun w' => w'.cell? ⟨gs, 1, none⟩ = some (.slice AT k cT) ∧ w'.frozen? ⟨gs, 1, none⟩ = false ∧ w'.cell? ⟨wr.heap.size, 0, none⟩ = some (.int .i64 y.kind) ∧ w'.cell? ⟨wr.heap.size, 1, none⟩ = some (.int .i64 y.n) ∧ w'.cell? ⟨wr.heap.size, 2, none⟩ = some (.slice y.p.A y.p.ys.length y.p.c)) (by kernel_rfl) (by decide) ?_
        have hS0 : (fun w' : World => w'.cell? ⟨gs, 1, none⟩ = some (.slice AT k cT) ∧ w'.frozen? ⟨gs, 1, none⟩ = false ∧ w'.cell? ⟨wr.heap.size, 0, none⟩ = some (.int .i64 y.kind) ∧ w'.cell? ⟨wr.heap.size, 1, none⟩ = some (.int .i64 y.n) ∧ w'.cell? ⟨wr.heap.size, 2, none⟩ = some (.slice y.p.A y.p.ys.length y.p.c)) w6.drew := ⟨s1, f1, c0, c1, c2⟩
        refine HeadW.take 0 (v := .pointer (some ⟨gs, 0, none⟩)) rfl (by kernel_rfl) (by kernel_rfl) (by kernel_rfl) (by decide) (by decide) (fun _ _ _ hL => seqB_ready hL.1) (by kernel_rfl) (by kernel_rfl) (fun _ _ _ h => h) hS0 (.inl ⟨by rfl, by intro w hSw; (try dsimp only at hSw); go_simp⟩) ?_
        simp only [Act.put, List.setIfInBounds_toArray]
        refine HeadW.take 1 (v := .pointer (some ⟨gs, 0, none⟩)) rfl (by kernel_rfl) (by kernel_rfl) (by kernel_rfl) (by decide) (by decide) (fun _ _ _ hL => seqB_ready hL.1) (by kernel_rfl) (by kernel_rfl) (fun _ _ _ h => h) hS0 (.inl ⟨by rfl, by intro w hSw; (try dsimp only at hSw); go_simp⟩) ?_
        simp only [Act.put]
        refine HeadW.take 2 (v := .pointer (some ⟨gs, 0, none⟩)) rfl (by kernel_rfl) (by kernel_rfl) (by kernel_rfl) (by decide) (by decide) (fun _ _ _ hL => seqB_ready hL.1) (by kernel_rfl) (by kernel_rfl) (fun _ _ _ h => h) hS0 (.inl ⟨by rfl, by intro w hSw; (try dsimp only at hSw); go_simp⟩) ?_
        simp only [Act.put]
        refine HeadW.take 3 (v := .pointer (some ⟨gs, 1, none⟩)) rfl (by kernel_rfl) (by kernel_rfl) (by kernel_rfl) (by decide) (by decide) (fun _ _ _ hL => seqB_ready hL.1) (by kernel_rfl) (by kernel_rfl) (fun _ _ _ h => h) hS0 (.inl ⟨by rfl, by intro w hSw; (try dsimp only at hSw); go_simp⟩) ?_
        simp only [Act.put]
        refine HeadW.take 4 (v := .slice AT k cT) rfl (by kernel_rfl) (by kernel_rfl) (by kernel_rfl) (by decide) (by decide) (fun _ _ _ hL => seqB_ready hL.1) (by kernel_rfl) (by kernel_rfl) (fun _ _ _ h => h) hS0 (.inl ⟨by rfl, by intro w hSw; (try dsimp only at hSw); go_simp⟩) ?_
        simp only [Act.put]
        refine HeadW.take 5 (v := .agg #[.int .i64 y.kind, .int .i64 y.n, .slice y.p.A y.p.ys.length y.p.c]) rfl (by kernel_rfl) (by kernel_rfl) (by kernel_rfl) (by decide) (by decide) (fun _ _ _ hL => seqB_ready hL.1) (by kernel_rfl) (by kernel_rfl) (fun _ _ _ h => h) hS0 (.inl ⟨by rfl, by intro w hSw; (try dsimp only at hSw); go_simp⟩) ?_
        simp only [Act.put]
        refine HeadW.one 6 rfl (by decide) (by kernel_rfl) fun K hK => ?_
        go_simp
        obtain ⟨wb, hwb⟩ : ∃ wb, wb = (w6.alloc (.cells #[.int .i64 y.kind, .int .i64 y.n, .slice y.p.A y.p.ys.length y.p.c] 30)).drew := ⟨_, rfl⟩
        have hOb : Below w6.heap.size w6 wb := by rw [hwb]; exact below_drewN ((Below.refl _ _).alloc (Nat.le_refl _) _) 1
        have hRb : RV wb (some ⟨w6.heap.size, 0, none⟩) (itemCells y) := by rw [hwb]; exact (RV.of_blk (Blk.new w6 _ #[_, _, _])).drew
        have hfb : wb.frozen? ⟨gs, 1, none⟩ = false := by rw [hwb]; exact hfa _
        have hzb : wb.heap.size = w6.heap.size + 1 := by rw [hwb]; simp
        have hSb := HS6.out.below hOb
        have hrdb := Hrd6.out.below hOb
        rw [← hwb]
        refine hK.out _ _ ⟨hSb.blk.cell 1, hfb, by rw [(bcell hOb).1 _ _ hgi6]; exact c0, by rw [(bcell hOb).1 _ _ hgi6]; exact c1, by rw [(bcell hOb).1 _ _ hgi6]; exact c2⟩ (fun hHeld => ?_)
        clear hK K hfa hS0 hwb s1 f1
        refine HeadW.one 7 rfl (by decide) (by kernel_rfl) fun K hK => ?_
        refine step_app (by rfl) (.tmp 74) (.tmp 76) eItem (by rfl) (base := w.heap.size) (n := k) (c := cT) (A := AT) (vs := told.flatMap itemCells) (by rfl) hSb.rowT (A' := some ⟨w6.heap.size, 0, none⟩) (m := 1) (c' := 1) (us := itemCells y) (by rfl) hRb rfl (items_one [y]) (by unfold maxLen; omega) (by omega) (by omega) (by simp) ?_
        intro A2 c2' w7 hown7 hgrow7 hat7
        have ho7 : Only (fun b => AT.map (·.block) = some b) wb w7 := Only.of_grown hgrow7 fun b e => e
        have hblk7 := hSb.blk.only ho7 (hSb.rowT.ne_map hSb.blk (by decide))
        have hleft7 := hSb.left.only ho7 (hSb.rowT.ne_map2 hSb.left (by decide))
        have hown7b : ∀ z ∈ told, Held w7 w.heap.size z.p := fun z hz => (hSb.own z hz).only ho7 (hSb.rowT.ne_held (hSb.own z hz) (by decide))
        have hyo7 : Held w7 w.heap.size y.p := (Hyo.out.below hOb).only ho7 (hSb.rowT.ne_held (Hyo.out.below hOb) (by decide))
        have hrd7 := hrdb.only ho7 (hSb.rowT.ne_map hrdb.blk (by decide)) fun b o e h => by have := (HA.out b o e).2; have := (HATlt.out b h).1; omega
        have hOw7 : Only (fun b => b = g ∨ b = gs) w w7 := (HO6.out.trans (Only.of_fresh hOb)).more ho7 fun b hb h => by have := (HATlt.out b h).1; omega
        have hgi7 : w7.cell? ⟨wr.heap.size, 0, none⟩ = some (.int .i64 y.kind) ∧ w7.cell? ⟨wr.heap.size, 1, none⟩ = some (.int .i64 y.n) ∧ w7.cell? ⟨wr.heap.size, 2, none⟩ = some (.slice y.p.A y.p.ys.length y.p.c) := by
          have hni : ¬ (AT.map (·.block) = some wr.heap.size) := fun h => by have := (HATlt.out _ h).2; omega
          refine ⟨?_, ?_, ?_⟩ <;> rw [(ocell ho7).1 _ _ (by omega) hni, (bcell hOb).1 _ _ hgi6] <;> assumption
        refine hK.out _ _ ⟨hblk7.cell 1, hblk7.frozen 1, hgi7⟩ (fun hHeld => ?_)
        refine fun _ => ⟨by kernel_rfl, ?_⟩
        have f71 := hblk7.frozen 1
        have c71 : w7.cell? ⟨gs, 1, none⟩ = some (.slice AT k cT) := hblk7.cell 1
        have hgs7 := hblk7.lt
        have Hblk7 := Lib.hid hblk7
        have Hown7 := Lib.hid hown7
        have Hleft7 := Lib.hid hleft7
        have Hown7b := Lib.hid hown7b
        have Hyo7 := Lib.hid hyo7
        have Hrd7 := Lib.hid hrd7
        have HOw7 := Lib.hid hOw7
        clear hK K hHeld hblk7 hown7 hleft7 hown7b hyo7 hrd7 hOw7 hgi7 hgrow7 hat7 ho7 hSb hrdb hOb hRb hfb hzb c0 c1 c2 Hba
        go_wp2_with fail
        obtain ⟨w8, hw8⟩ : ∃ w8, w8 = w7.setCell ⟨gs, 1, none⟩ (.slice A2 (k + 1) c2') := ⟨_, rfl⟩
        rw [← hw8]
        have ho8 : Only (fun b => b = gs) w7 w8 := by rw [hw8]; exact (Only.refl (fun b => b = gs) w7).setCell (p := ⟨gs, 1, none⟩) (.inl rfl) _
        have hblk8 : Blk w8 gs 83 #[.slice (some ⟨pb, poff, none⟩) all.length cW, .slice A2 (k + 1) c2', .slice AL k cL, .pointer (some ⟨g, 0, none⟩)] := by
          rw [hw8]; exact Blk.setL (cs := [.slice (some ⟨pb, poff, none⟩) all.length cW, .slice AT k cT, .slice AL k cL, .pointer (some ⟨g, 0, none⟩)]) Hblk7.out 1 _
        clear hw8
        have hown8 := Hown7.out.only ho8 fun b o e h => Hown7.out.ne_blk Hblk7.out (by decide) b o e h
        have hleft8 := Hleft7.out.only ho8 fun b o e h => Hleft7.out.ne_blk Hblk7.out (by decide) b o e h
        have hown8b : ∀ z ∈ told, Held w8 w.heap.size z.p := fun z hz => (Hown7b.out z hz).only ho8 fun b o e h => (Hown7b.out z hz).ne_blk Hblk7.out (by decide) b o e h
        have hyo8 := Hyo7.out.only ho8 fun b o e h => Hyo7.out.ne_blk Hblk7.out (by decide) b o e h
        have hrd8 := Hrd7.out.only ho8 (fun h => hgs h.symm) fun b o e h => (HA.out b o e).1 h
        have hOw8 : Only (fun b => b = g ∨ b = gs) w w8 := HOw7.out.trans (ho8.mono fun _ _ e => .inr e)
        have s2 : w8.cell? ⟨gs, 2, none⟩ = some (.slice AL k cL) := hblk8.cell 2
        have f2 := hblk8.frozen 2
        have hgs8 := hblk8.lt
        have hb8 : w.heap.size ≤ w8.heap.size := hOw8.size
        have hS0 : (fun w' : World => w'.cell? ⟨gs, 2, none⟩ = some (.slice AL k cL) ∧ w'.frozen? ⟨gs, 2, none⟩ = false) w8.drew := ⟨s2, f2⟩
        refine region_heldT 9 (fun w' => w'.cell? ⟨gs, 2, none⟩ = some (.slice AL k cL) ∧ w'.frozen? ⟨gs, 2, none⟩ = false) (by kernel_rfl) (by decide) ?_
        refine HeadW.take 0 (v := .pointer (some ⟨gs, 0, none⟩)) rfl (by kernel_rfl) (by kernel_rfl) (by kernel_rfl) (by decide) (by decide) (fun _ _ _ hL => seqB_ready hL.1) (by kernel_rfl) (by kernel_rfl) (fun _ _ _ h => h) hS0 (.inl ⟨by rfl, by intro w hSw; (try dsimp only at hSw); go_simp⟩) ?_
        simp only [Act.put, List.setIfInBounds_toArray]
        refine HeadW.take 1 (v := .pointer (some ⟨gs, 0, none⟩)) rfl (by kernel_rfl) (by kernel_rfl) (by kernel_rfl) (by decide) (by decide) (fun _ _ _ hL => seqB_ready hL.1) (by kernel_rfl) (by kernel_rfl) (fun _ _ _ h => h) hS0 (.inl ⟨by rfl, by intro w hSw; (try dsimp only at hSw); go_simp⟩) ?_
        simp only [Act.put]
        refine HeadW.take 2 (v := .pointer (some ⟨gs, 0, none⟩)) rfl (by kernel_rfl) (by kernel_rfl) (by kernel_rfl) (by decide) (by decide) (fun _ _ _ hL => seqB_ready hL.1) (by kernel_rfl) (by kernel_rfl) (fun _ _ _ h => h) hS0 (.inl ⟨by rfl, by intro w hSw; (try dsimp only at hSw); go_simp⟩) ?_
        simp only [Act.put]
        refine HeadW.take 3 (v := .pointer (some ⟨gs, 2, none⟩)) rfl (by kernel_rfl) (by kernel_rfl) (by kernel_rfl) (by decide) (by decide) (fun _ _ _ hL => seqB_ready hL.1) (by kernel_rfl) (by kernel_rfl) (fun _ _ _ h => h) hS0 (.inl ⟨by rfl, by intro w hSw; (try dsimp only at hSw); go_simp⟩) ?_
        simp only [Act.put]
        refine HeadW.take 4 (v := .slice AL k cL) rfl (by kernel_rfl) (by kernel_rfl) (by kernel_rfl) (by decide) (by decide) (fun _ _ _ hL => seqB_ready hL.1) (by kernel_rfl) (by kernel_rfl) (fun _ _ _ h => h) hS0 (.inl ⟨by rfl, by intro w hSw; (try dsimp only at hSw); go_simp⟩) ?_
        simp only [Act.put]
        refine HeadW.take 5 (v := .pointer (some ⟨g, 0, none⟩)) rfl (by kernel_rfl) (by kernel_rfl) (by kernel_rfl) (by decide) (by decide) (fun _ _ _ hL => seqB_ready hL.1) (by kernel_rfl) (by kernel_rfl) (fun _ _ _ h => h) hS0 (.inl ⟨by rfl, by intro w hSw; (try dsimp only at hSw); go_simp⟩) ?_
        simp only [Act.put]
        refine HeadW.one 6 rfl (by decide) (by kernel_rfl) fun K hK => ?_
        go_simp
        refine (rLeft_any g c _ A bs w8.drew (hrd8.drewN 1) hl).mono ?_
        rintro e _ ⟨rfl, m, rfl⟩
        have hzl : (formsL (all.take (k + 1))).length ≤ bs.length := hrd8.le
        obtain ⟨lv, hlv⟩ : ∃ lv : Nat, lv = bs.length - (formsL (all.take (k + 1))).length := ⟨_, rfl⟩
        rw [← hlv]
        obtain ⟨w9, hw9⟩ : ∃ w9, w9 = w8.drew.drewN m := ⟨_, rfl⟩
        have hO9 : Below w8.heap.size w8 w9 := by rw [hw9]; exact below_drewN (below_drewN (Below.refl _ _) 1) m
        have hz9 : w9.heap.size = w8.heap.size := by rw [hw9]; rfl
        have hS9 : w9.cell? ⟨gs, 2, none⟩ = some (.slice AL k cL) ∧ w9.frozen? ⟨gs, 2, none⟩ = false := by rw [hw9]; exact ⟨s2, f2⟩
        rw [← hw9]
        have Hlv := Lib.hid hlv
        clear hw9 hlv
        refine hK.out _ _ hS9 (fun hHeld => ?_)
        clear hK K hHeld hS0
        refine HeadW.one 7 rfl (by decide) (by kernel_rfl) fun K hK => ?_
        go_simp
        obtain ⟨wc, hwc⟩ : ∃ wc, wc = w9.alloc (.cells #[.int .i64 (lv : Int)] 3) := ⟨_, rfl⟩
        have hOc : Below w9.heap.size w9 wc := by rw [hwc]; exact (Below.refl _ _).alloc (Nat.le_refl _) _
        have hRc : RV wc (some ⟨w9.heap.size, 0, none⟩) [.int .i64 (lv : Int)] := by rw [hwc]; exact RV.of_blk (Blk.new w9 _ #[_])
        have hzc : wc.heap.size = w9.heap.size + 1 := by rw [hwc]; simp
        rw [hz9] at hRc
        have hOc8 : Below w8.heap.size w8 wc := hO9.trans (hOc.mono (by omega))
        have hblkc := hblk8.below hOc8 hgs8
        have hleftc := hleft8.below hOc8 (Nat.le_refl _)
        have hownc := hown8.below hOc8 (Nat.le_refl _)
        have hrdc := hrd8.below hOc8
        rw [← hwc]
        clear hwc
        refine hK.out _ _ ⟨hblkc.cell 2, hblkc.frozen 2⟩ (fun hHeld => ?_)
        clear hK K hHeld
        refine HeadW.one 8 rfl (by decide) (by kernel_rfl) fun K hK => ?_
        refine step_app (by rfl) (.tmp 84) (.tmp 87) eInt (by rfl) (base := w.heap.size) (n := k) (c := cL) (A := AL) (vs := leftV all k) (by rfl) hleftc (A' := some ⟨w8.heap.size, 0, none⟩) (m := 1) (c' := 1) (us := [.int .i64 (lv : Int)]) (by rfl) hRc rfl (fun v hv => by rcases List.mem_singleton.1 hv with rfl; rfl) (by unfold maxLen; omega) (by omega) (by omega) (by simp) ?_
        intro AL2 cL2 w10 hown10 hgrow10 hat10
        have ho10 : Only (fun b => AL.map (·.block) = some b) wc w10 := Only.of_grown hgrow10 fun b e => e
        have hALlt : ∀ b, AL.map (·.block) = some b → w.heap.size ≤ b := fun b h => (Own.row hleft8 b h).1
        have hblk10 := hblkc.only ho10 (hleftc.ne_map hblkc (by decide))
        have hrow10 := hownc.only ho10 (hleftc.ne_map2 hownc (by decide))
        have hown10b : ∀ z ∈ told, Held w10 w.heap.size z.p := fun z hz => ((hown8b z hz).below hOc8).only ho10 (hleftc.ne_held ((hown8b z hz).below hOc8) (by decide))
        have hyo10 : Held w10 w.heap.size y.p := (hyo8.below hOc8).only ho10 (hleftc.ne_held (hyo8.below hOc8) (by decide))
        have hrd10 := hrdc.only ho10 (hleftc.ne_map hrdc.blk (by decide)) fun b o e h => by have := (HA.out b o e).2; have := hALlt b h; omega
        have hOw10 : Only (fun b => b = g ∨ b = gs) w w10 := (hOw8.trans (Only.of_fresh hOc8)).more ho10 fun b hb h => by have := hALlt b h; omega
        refine hK.out _ _ ⟨hblk10.cell 2, hblk10.frozen 2⟩ (fun hHeld => ?_)
        refine fun _ => ⟨by kernel_rfl, ?_⟩
        have f102 := hblk10.frozen 2
        have c102 : w10.cell? ⟨gs, 2, none⟩ = some (.slice AL k cL) := hblk10.cell 2
        have hgs10 := hblk10.lt
        have Hblk10 := Lib.hid hblk10
        have Hown10 := Lib.hid hown10
        have Hrow10 := Lib.hid hrow10
        have Hown10b := Lib.hid hown10b
        have Hyo10 := Lib.hid hyo10
        have Hrd10 := Lib.hid hrd10
        have HOw10 := Lib.hid hOw10
        clear hK K hHeld hblk10 hown10 hrow10 hown10b hyo10 hrd10 hOw10 hgrow10 hat10 ho10 hblkc hleftc hownc hrdc hOc hOc8 hRc hO9 hS9 hblk8 hown8 hleft8 hown8b hyo8 hrd8 hOw8 ho8 s2 f2
        go_wp2_with fail
        refine ⟨⟨k + 1, A2, c2', AL2, cL2, told ++ [y], by omega, by go_num, ⟨?_, ?_, ?_, ?_, ?_, ?_⟩, ?_, ?_⟩, by simp [intOf]; omega⟩
        · exact Blk.setL (cs := [.slice (some ⟨pb, poff, none⟩) all.length cW, .slice A2 (k + 1) c2', .slice AL k cL, .pointer (some ⟨g, 0, none⟩)]) Hblk10.out 2 _
        · have h := Hrow10.out.only (S := fun b => b = gs) (w' := w10.setCell ⟨gs, 2, none⟩ (.slice AL2 (k + 1) cL2)) ((Only.refl (fun b => b = gs) w10).setCell (p := ⟨gs, 2, none⟩) (.inl rfl) _) fun b o e h => Hrow10.out.ne_blk Hblk10.out (by decide) b o e h
          rw [List.flatMap_append]
          simpa using h
        · have h := Hown10.out.only (S := fun b => b = gs) (w' := w10.setCell ⟨gs, 2, none⟩ (.slice AL2 (k + 1) cL2)) ((Only.refl (fun b => b = gs) w10).setCell (p := ⟨gs, 2, none⟩) (.inl rfl) _) fun b o e h => Hown10.out.ne_blk Hblk10.out (by decide) b o e h
          have e : leftV all (k + 1) = leftV all k ++ [.int .i64 (lv : Int)] := by
            unfold leftV
            rw [List.range_succ, List.map_append, Hlv.out, Hbs.out]
            rfl
          rw [e]
          exact h
        · rw [List.length_append, HS6.out.len]; rfl
        · intro j hj h2
          rcases Nat.lt_or_ge j k with h | h
          · obtain ⟨z, hz, hz2⟩ := HS6.out.mat j h h2
            exact ⟨z, by rw [List.getElem?_append_left (by rw [HS6.out.len]; exact h)]; exact hz, hz2⟩
          · obtain rfl : j = k := by omega
            exact ⟨y, by rw [List.getElem?_append_right (by rw [HS6.out.len]; exact h), HS6.out.len, Nat.sub_self]; rfl, by rw [← Hxe.out]; exact Has.out⟩
        · intro z hz
          have hz2 : Held w10 w.heap.size z.p := by
            rcases List.mem_append.1 hz with h | h
            · exact Hown10b.out z h
            · rcases List.mem_singleton.1 h with rfl
              exact Hyo10.out
          exact hz2.only ((Only.refl (fun b => b = gs) w10).setCell (p := ⟨gs, 2, none⟩) (.inl rfl) _) fun b o e h => hz2.ne_blk Hblk10.out (by decide) b o e h
        · exact Hrd10.out.only ((Only.refl (fun b => b = gs) w10).setCell (p := ⟨gs, 2, none⟩) (.inl rfl) _) (fun h => hgs h.symm) fun b o e h => (HA.out b o e).1 h
        · exact HOw10.out.setCell (p := ⟨gs, 2, none⟩) (.inl (.inr rfl)) _
      by_cases h3 : x.kind = 3
      · clear h1 h2
        have q1 : (x.kind == 1) = false := by rw [beq_eq_false_iff_ne]; omega
        have q2 : (x.kind == 2) = false := by rw [beq_eq_false_iff_ne]; omega
        have g2 : (x.kind == 3) = true := by rw [beq_iff_eq]; exact h3
        have hform : itemL x = boolL (x.n == 1) := by unfold itemL; rw [if_neg (by omega), if_neg (by omega), if_pos h3]
        have hpar := rBool_form (formsL (all.take k)) (formsL (all.drop (k + 1))) (x.n == 1)
        rw [← hform, ← Hsp.out] at hpar
        have hlen1 : (itemL x).length = 1 := by rw [hform]; rfl
        have hc := rBool_any g c _ A bs wa Hrda.out hl
        rw [hpar] at hc
        rw [hlen1] at Hnx
        have hbool := Hx.out.bool h3
        have Hkd := Lib.hid h3
        clear hform hpar h3
        by_cases hb1 : x.n = 1
        · have hbv : (x.n == 1) = true := by rw [beq_iff_eq]; exact hb1
          have Hn := Lib.hid hb1
          clear hb1 hbool
          go_wp2_with fail
          rw [← Hwa.out]
          refine hc.mono ?_
          rintro e w5 ⟨he5, hrd5, ho5⟩
          rw [hbv] at he5
          subst he5
          have hB5 := HBa.out.only ho5 (by omega)
          have hf5 := hB5.frozen 1
          have hc51 : w5.cell? ⟨wr.heap.size, 1, none⟩ = some (.int .i64 0) := hB5.cell 1
          have hgi := hB5.lt
          have Hrd5 := Lib.hid hrd5
          have Ho5 := Lib.hid ho5
          have HB5 := Lib.hid hB5
          clear hc hrd5 ho5 hB5
          go_wp2_with fail
          obtain ⟨y, hy⟩ : ∃ y : Item, y = ⟨x.kind, 1, ⟨none, 0, []⟩⟩ := ⟨_, rfl⟩
          obtain ⟨w6, hw6⟩ : ∃ w6, w6 = w5.setCell ⟨wr.heap.size, 1, none⟩ (.int .i64 1) := ⟨_, rfl⟩
          have hB6 : Blk w6 wr.heap.size 30 (itemCells y).toArray := by rw [hw6, hy]; exact Blk.setL (cs := [.int .i64 x.kind, .int .i64 0, .slice none 0 0]) HB5.out 1 _
          have ho6 : Only (fun b => b = g) wr w6 := by rw [hw6]; exact (((Only.of_fresh Hba.out).trans Ho5.out).setCell (p := ⟨wr.heap.size, 1, none⟩) (.inr (Nat.le_refl _)) _)
          have hrd6 : Rd w6 g A c bs (formsL (all.take (k + 1))).length false 0 := by
            rw [hw6, Hnx.out]
            exact Hrd5.out.only ((Only.refl (fun b => b = wr.heap.size) w5).setCell (p := ⟨wr.heap.size, 1, none⟩) (.inl rfl) _) (by omega) fun b o e => by have := (HA.out b o e).2; have := HO.out.size; omega
          have has : As y x := by
            rw [hy]
            exact ⟨rfl, fun _ => by have := Hn.out; dsimp only; omega, fun h => absurd h (by have := Hkd.out; omega), fun _ => rfl⟩
          have hyo : Held w6 w.heap.size y.p := by rw [hy]; exact Held.empty _ _
          have hS6 := HS.out.step Hrd2.out.blk ho6 hgs
          have c0 : w6.cell? ⟨wr.heap.size, 0, none⟩ = some (.int .i64 y.kind) := hB6.cell 0
          have c1 : w6.cell? ⟨wr.heap.size, 1, none⟩ = some (.int .i64 y.n) := hB6.cell 1
          have c2 : w6.cell? ⟨wr.heap.size, 2, none⟩ = some (.slice y.p.A y.p.ys.length y.p.c) := hB6.cell 2
          rw [← hw6]
          have hgi6 := hB6.lt
          have HB6 := Lib.hid hB6
          have HO6 := Lib.hid (HO.out.trans (ho6.mono fun _ _ e => .inl e))
          have Hrd6 := Lib.hid hrd6
          have Has := Lib.hid has
          have Hyo := Lib.hid hyo
          have HS6 := Lib.hid hS6
          clear hw6 hB6 ho6 hrd6 has hyo hS6 HB5 Ho5 Hrd5 hf5 hc51 hy HBa Hrda Hwa HS Hrd2 HO s0 ck cp hgi
          have s1 : w6.cell? ⟨gs, 1, none⟩ = some (.slice AT k cT) := HS6.out.blk.cell 1
          have f1 := HS6.out.blk.frozen 1
          have hgs6 := HS6.out.blk.lt
          have hb6 : w.heap.size ≤ w6.heap.size := HO6.out.size
          have hfa : ∀ o, ((w6.alloc o).drew).frozen? ⟨gs, 1, none⟩ = false := fun o => by rw [(ocell (((Only.refl (fun _ => False) w6).alloc o).drew)).2 gs 1 hgs6 (fun h => h)]; exact f1
          refine region_heldT 8 (fun w' => w'.cell? ⟨gs, 1, none⟩ = some (.slice AT k cT) ∧ w'.frozen? ⟨gs, 1, none⟩ = false ∧ w'.cell? ⟨wr.heap.size, 0, none⟩ = some (.int .i64 y.kind) ∧ w'.cell? ⟨wr.heap.size, 1, none⟩ = some (.int .i64 y.n) ∧ w'.cell? ⟨wr.heap.size, 2, none⟩ = some (.slice y.p.A y.p.ys.length y.p.c)) (by kernel_rfl) (by decide) ?_
          have hS0 : (fun w' : World => w'.cell? ⟨gs, 1, none⟩ = some (.slice AT k cT) ∧ w'.frozen? ⟨gs, 1, none⟩ = false ∧ w'.cell? ⟨wr.heap.size, 0, none⟩ = some (.int .i64 y.kind) ∧ w'.cell? ⟨wr.heap.size, 1, none⟩ = some (.int .i64 y.n) ∧ w'.cell? ⟨wr.heap.size, 2, none⟩ = some (.slice y.p.A y.p.ys.length y.p.c)) w6.drew := ⟨s1, f1, c0, c1, c2⟩
          refine HeadW.take 0 (v := .pointer (some ⟨gs, 0, none⟩)) rfl (by kernel_rfl) (by kernel_rfl) (by kernel_rfl) (by decide) (by decide) (fun _ _ _ hL => seqB_ready hL.1) (by kernel_rfl) (by kernel_rfl) (fun _ _ _ h => h) hS0 (.inl ⟨by rfl, by intro w hSw; (try dsimp only at hSw); go_simp⟩) ?_
          simp only [Act.put, List.setIfInBounds_toArray]
          refine HeadW.take 1 (v := .pointer (some ⟨gs, 0, none⟩)) rfl (by kernel_rfl) (by kernel_rfl) (by kernel_rfl) (by decide) (by decide) (fun _ _ _ hL => seqB_ready hL.1) (by kernel_rfl) (by kernel_rfl) (fun _ _ _ h => h) hS0 (.inl ⟨by rfl, by intro w hSw; (try dsimp only at hSw); go_simp⟩) ?_
          simp only [Act.put]
          refine HeadW.take 2 (v := .pointer (some ⟨gs, 0, none⟩)) rfl (by kernel_rfl) (by kernel_rfl) (by kernel_rfl) (by decide) (by decide) (fun _ _ _ hL => seqB_ready hL.1) (by kernel_rfl) (by kernel_rfl) (fun _ _ _ h => h) hS0 (.inl ⟨by rfl, by intro w hSw; (try dsimp only at hSw); go_simp⟩) ?_
          simp only [Act.put]
          refine HeadW.take 3 (v := .pointer (some ⟨gs, 1, none⟩)) rfl (by kernel_rfl) (by kernel_rfl) (by kernel_rfl) (by decide) (by decide) (fun _ _ _ hL => seqB_ready hL.1) (by kernel_rfl) (by kernel_rfl) (fun _ _ _ h => h) hS0 (.inl ⟨by rfl, by intro w hSw; (try dsimp only at hSw); go_simp⟩) ?_
          simp only [Act.put]
          refine HeadW.take 4 (v := .slice AT k cT) rfl (by kernel_rfl) (by kernel_rfl) (by kernel_rfl) (by decide) (by decide) (fun _ _ _ hL => seqB_ready hL.1) (by kernel_rfl) (by kernel_rfl) (fun _ _ _ h => h) hS0 (.inl ⟨by rfl, by intro w hSw; (try dsimp only at hSw); go_simp⟩) ?_
          simp only [Act.put]
          refine HeadW.take 5 (v := .agg #[.int .i64 y.kind, .int .i64 y.n, .slice y.p.A y.p.ys.length y.p.c]) rfl (by kernel_rfl) (by kernel_rfl) (by kernel_rfl) (by decide) (by decide) (fun _ _ _ hL => seqB_ready hL.1) (by kernel_rfl) (by kernel_rfl) (fun _ _ _ h => h) hS0 (.inl ⟨by rfl, by intro w hSw; (try dsimp only at hSw); go_simp⟩) ?_
          simp only [Act.put]
          refine HeadW.one 6 rfl (by decide) (by kernel_rfl) fun K hK => ?_
          go_simp
          obtain ⟨wb, hwb⟩ : ∃ wb, wb = (w6.alloc (.cells #[.int .i64 y.kind, .int .i64 y.n, .slice y.p.A y.p.ys.length y.p.c] 30)).drew := ⟨_, rfl⟩
          have hOb : Below w6.heap.size w6 wb := by rw [hwb]; exact below_drewN ((Below.refl _ _).alloc (Nat.le_refl _) _) 1
          have hRb : RV wb (some ⟨w6.heap.size, 0, none⟩) (itemCells y) := by rw [hwb]; exact (RV.of_blk (Blk.new w6 _ #[_, _, _])).drew
          have hfb : wb.frozen? ⟨gs, 1, none⟩ = false := by rw [hwb]; exact hfa _
          have hzb : wb.heap.size = w6.heap.size + 1 := by rw [hwb]; simp
          have hSb := HS6.out.below hOb
          have hrdb := Hrd6.out.below hOb
          rw [← hwb]
          refine hK.out _ _ ⟨hSb.blk.cell 1, hfb, by rw [(bcell hOb).1 _ _ hgi6]; exact c0, by rw [(bcell hOb).1 _ _ hgi6]; exact c1, by rw [(bcell hOb).1 _ _ hgi6]; exact c2⟩ (fun hHeld => ?_)
          clear hK K hfa hS0 hwb s1 f1
          refine HeadW.one 7 rfl (by decide) (by kernel_rfl) fun K hK => ?_
          refine step_app (by rfl) (.tmp 74) (.tmp 76) eItem (by rfl) (base := w.heap.size) (n := k) (c := cT) (A := AT) (vs := told.flatMap itemCells) (by rfl) hSb.rowT (A' := some ⟨w6.heap.size, 0, none⟩) (m := 1) (c' := 1) (us := itemCells y) (by rfl) hRb rfl (items_one [y]) (by unfold maxLen; omega) (by omega) (by omega) (by simp) ?_
          intro A2 c2' w7 hown7 hgrow7 hat7
          have ho7 : Only (fun b => AT.map (·.block) = some b) wb w7 := Only.of_grown hgrow7 fun b e => e
          have hblk7 := hSb.blk.only ho7 (hSb.rowT.ne_map hSb.blk (by decide))
          have hleft7 := hSb.left.only ho7 (hSb.rowT.ne_map2 hSb.left (by decide))
          have hown7b : ∀ z ∈ told, Held w7 w.heap.size z.p := fun z hz => (hSb.own z hz).only ho7 (hSb.rowT.ne_held (hSb.own z hz) (by decide))
          have hyo7 : Held w7 w.heap.size y.p := (Hyo.out.below hOb).only ho7 (hSb.rowT.ne_held (Hyo.out.below hOb) (by decide))
          have hrd7 := hrdb.only ho7 (hSb.rowT.ne_map hrdb.blk (by decide)) fun b o e h => by have := (HA.out b o e).2; have := (HATlt.out b h).1; omega
          have hOw7 : Only (fun b => b = g ∨ b = gs) w w7 := (HO6.out.trans (Only.of_fresh hOb)).more ho7 fun b hb h => by have := (HATlt.out b h).1; omega
          have hgi7 : w7.cell? ⟨wr.heap.size, 0, none⟩ = some (.int .i64 y.kind) ∧ w7.cell? ⟨wr.heap.size, 1, none⟩ = some (.int .i64 y.n) ∧ w7.cell? ⟨wr.heap.size, 2, none⟩ = some (.slice y.p.A y.p.ys.length y.p.c) := by
            have hni : ¬ (AT.map (·.block) = some wr.heap.size) := fun h => by have := (HATlt.out _ h).2; omega
            refine ⟨?_, ?_, ?_⟩ <;> rw [(ocell ho7).1 _ _ (by omega) hni, (bcell hOb).1 _ _ hgi6] <;> assumption
          refine hK.out _ _ ⟨hblk7.cell 1, hblk7.frozen 1, hgi7⟩ (fun hHeld => ?_)
          refine fun _ => ⟨by kernel_rfl, ?_⟩
          have f71 := hblk7.frozen 1
          have c71 : w7.cell? ⟨gs, 1, none⟩ = some (.slice AT k cT) := hblk7.cell 1
          have hgs7 := hblk7.lt
          have Hblk7 := Lib.hid hblk7
          have Hown7 := Lib.hid hown7
          have Hleft7 := Lib.hid hleft7
          have Hown7b := Lib.hid hown7b
          have Hyo7 := Lib.hid hyo7
          have Hrd7 := Lib.hid hrd7
          have HOw7 := Lib.hid hOw7
          clear hK K hHeld hblk7 hown7 hleft7 hown7b hyo7 hrd7 hOw7 hgi7 hgrow7 hat7 ho7 hSb hrdb hOb hRb hfb hzb c0 c1 c2 Hba
          go_wp2_with fail
          obtain ⟨w8, hw8⟩ : ∃ w8, w8 = w7.setCell ⟨gs, 1, none⟩ (.slice A2 (k + 1) c2') := ⟨_, rfl⟩
          rw [← hw8]
          have ho8 : Only (fun b => b = gs) w7 w8 := by rw [hw8]; exact (Only.refl (fun b => b = gs) w7).setCell (p := ⟨gs, 1, none⟩) (.inl rfl) _
          have hblk8 : Blk w8 gs 83 #[.slice (some ⟨pb, poff, none⟩) all.length cW, .slice A2 (k + 1) c2', .slice AL k cL, .pointer (some ⟨g, 0, none⟩)] := by
            rw [hw8]; exact Blk.setL (cs := [.slice (some ⟨pb, poff, none⟩) all.length cW, .slice AT k cT, .slice AL k cL, .pointer (some ⟨g, 0, none⟩)]) Hblk7.out 1 _
          clear hw8
          have hown8 := Hown7.out.only ho8 fun b o e h => Hown7.out.ne_blk Hblk7.out (by decide) b o e h
          have hleft8 := Hleft7.out.only ho8 fun b o e h => Hleft7.out.ne_blk Hblk7.out (by decide) b o e h
          have hown8b : ∀ z ∈ told, Held w8 w.heap.size z.p := fun z hz => (Hown7b.out z hz).only ho8 fun b o e h => (Hown7b.out z hz).ne_blk Hblk7.out (by decide) b o e h
          have hyo8 := Hyo7.out.only ho8 fun b o e h => Hyo7.out.ne_blk Hblk7.out (by decide) b o e h
          have hrd8 := Hrd7.out.only ho8 (fun h => hgs h.symm) fun b o e h => (HA.out b o e).1 h
          have hOw8 : Only (fun b => b = g ∨ b = gs) w w8 := HOw7.out.trans (ho8.mono fun _ _ e => .inr e)
          have s2 : w8.cell? ⟨gs, 2, none⟩ = some (.slice AL k cL) := hblk8.cell 2
          have f2 := hblk8.frozen 2
          have hgs8 := hblk8.lt
          have hb8 : w.heap.size ≤ w8.heap.size := hOw8.size
          have hS0 : (fun w' : World => w'.cell? ⟨gs, 2, none⟩ = some (.slice AL k cL) ∧ w'.frozen? ⟨gs, 2, none⟩ = false) w8.drew := ⟨s2, f2⟩
          refine region_heldT 9 (fun w' => w'.cell? ⟨gs, 2, none⟩ = some (.slice AL k cL) ∧ w'.frozen? ⟨gs, 2, none⟩ = false) (by kernel_rfl) (by decide) ?_
          refine HeadW.take 0 (v := .pointer (some ⟨gs, 0, none⟩)) rfl (by kernel_rfl) (by kernel_rfl) (by kernel_rfl) (by decide) (by decide) (fun _ _ _ hL => seqB_ready hL.1) (by kernel_rfl) (by kernel_rfl) (fun _ _ _ h => h) hS0 (.inl ⟨by rfl, by intro w hSw; (try dsimp only at hSw); go_simp⟩) ?_
          simp only [Act.put, List.setIfInBounds_toArray]
          refine HeadW.take 1 (v := .pointer (some ⟨gs, 0, none⟩)) rfl (by kernel_rfl) (by kernel_rfl) (by kernel_rfl) (by decide) (by decide) (fun _ _ _ hL => seqB_ready hL.1) (by kernel_rfl) (by kernel_rfl) (fun _ _ _ h => h) hS0 (.inl ⟨by rfl, by intro w hSw; (try dsimp only at hSw); go_simp⟩) ?_
          simp only [Act.put]
          refine HeadW.take 2 (v := .pointer (some ⟨gs, 0, none⟩)) rfl (by kernel_rfl) (by kernel_rfl) (by kernel_rfl) (by decide) (by decide) (fun _ _ _ hL => seqB_ready hL.1) (by kernel_rfl) (by kernel_rfl) (fun _ _ _ h => h) hS0 (.inl ⟨by rfl, by intro w hSw; (try dsimp only at hSw); go_simp⟩) ?_
          simp only [Act.put]
          refine HeadW.take 3 (v := .pointer (some ⟨gs, 2, none⟩)) rfl (by kernel_rfl) (by kernel_rfl) (by kernel_rfl) (by decide) (by decide) (fun _ _ _ hL => seqB_ready hL.1) (by kernel_rfl) (by kernel_rfl) (fun _ _ _ h => h) hS0 (.inl ⟨by rfl, by intro w hSw; (try dsimp only at hSw); go_simp⟩) ?_
          simp only [Act.put]
          refine HeadW.take 4 (v := .slice AL k cL) rfl (by kernel_rfl) (by kernel_rfl) (by kernel_rfl) (by decide) (by decide) (fun _ _ _ hL => seqB_ready hL.1) (by kernel_rfl) (by kernel_rfl) (fun _ _ _ h => h) hS0 (.inl ⟨by rfl, by intro w hSw; (try dsimp only at hSw); go_simp⟩) ?_
          simp only [Act.put]
          refine HeadW.take 5 (v := .pointer (some ⟨g, 0, none⟩)) rfl (by kernel_rfl) (by kernel_rfl) (by kernel_rfl) (by decide) (by decide) (fun _ _ _ hL => seqB_ready hL.1) (by kernel_rfl) (by kernel_rfl) (fun _ _ _ h => h) hS0 (.inl ⟨by rfl, by intro w hSw; (try dsimp only at hSw); go_simp⟩) ?_
          simp only [Act.put]
          refine HeadW.one 6 rfl (by decide) (by kernel_rfl) fun K hK => ?_
          go_simp
          refine (rLeft_any g c _ A bs w8.drew (hrd8.drewN 1) hl).mono ?_
          rintro e _ ⟨rfl, m, rfl⟩
          have hzl : (formsL (all.take (k + 1))).length ≤ bs.length := hrd8.le
          obtain ⟨lv, hlv⟩ : ∃ lv : Nat, lv = bs.length - (formsL (all.take (k + 1))).length := ⟨_, rfl⟩
          rw [← hlv]
          obtain ⟨w9, hw9⟩ : ∃ w9, w9 = w8.drew.drewN m := ⟨_, rfl⟩
          have hO9 : Below w8.heap.size w8 w9 := by rw [hw9]; exact below_drewN (below_drewN (Below.refl _ _) 1) m
          have hz9 : w9.heap.size = w8.heap.size := by rw [hw9]; rfl
          have hS9 : w9.cell? ⟨gs, 2, none⟩ = some (.slice AL k cL) ∧ w9.frozen? ⟨gs, 2, none⟩ = false := by rw [hw9]; exact ⟨s2, f2⟩
          rw [← hw9]
          have Hlv := Lib.hid hlv
          clear hw9 hlv
          refine hK.out _ _ hS9 (fun hHeld => ?_)
          clear hK K hHeld hS0
          refine HeadW.one 7 rfl (by decide) (by kernel_rfl) fun K hK => ?_
          go_simp
          obtain ⟨wc, hwc⟩ : ∃ wc, wc = w9.alloc (.cells #[.int .i64 (lv : Int)] 3) := ⟨_, rfl⟩
          have hOc : Below w9.heap.size w9 wc := by rw [hwc]; exact (Below.refl _ _).alloc (Nat.le_refl _) _
          have hRc : RV wc (some ⟨w9.heap.size, 0, none⟩) [.int .i64 (lv : Int)] := by rw [hwc]; exact RV.of_blk (Blk.new w9 _ #[_])
          have hzc : wc.heap.size = w9.heap.size + 1 := by rw [hwc]; simp
          rw [hz9] at hRc
          have hOc8 : Below w8.heap.size w8 wc := hO9.trans (hOc.mono (by omega))
          have hblkc := hblk8.below hOc8 hgs8
          have hleftc := hleft8.below hOc8 (Nat.le_refl _)
          have hownc := hown8.below hOc8 (Nat.le_refl _)
          have hrdc := hrd8.below hOc8
          rw [← hwc]
          clear hwc
          refine hK.out _ _ ⟨hblkc.cell 2, hblkc.frozen 2⟩ (fun hHeld => ?_)
          clear hK K hHeld
          refine HeadW.one 8 rfl (by decide) (by kernel_rfl) fun K hK => ?_
          refine step_app (by rfl) (.tmp 84) (.tmp 87) eInt (by rfl) (base := w.heap.size) (n := k) (c := cL) (A := AL) (vs := leftV all k) (by rfl) hleftc (A' := some ⟨w8.heap.size, 0, none⟩) (m := 1) (c' := 1) (us := [.int .i64 (lv : Int)]) (by rfl) hRc rfl (fun v hv => by rcases List.mem_singleton.1 hv with rfl; rfl) (by unfold maxLen; omega) (by omega) (by omega) (by simp) ?_
          intro AL2 cL2 w10 hown10 hgrow10 hat10
          have ho10 : Only (fun b => AL.map (·.block) = some b) wc w10 := Only.of_grown hgrow10 fun b e => e
          have hALlt : ∀ b, AL.map (·.block) = some b → w.heap.size ≤ b := fun b h => (Own.row hleft8 b h).1
          have hblk10 := hblkc.only ho10 (hleftc.ne_map hblkc (by decide))
          have hrow10 := hownc.only ho10 (hleftc.ne_map2 hownc (by decide))
          have hown10b : ∀ z ∈ told, Held w10 w.heap.size z.p := fun z hz => ((hown8b z hz).below hOc8).only ho10 (hleftc.ne_held ((hown8b z hz).below hOc8) (by decide))
          have hyo10 : Held w10 w.heap.size y.p := (hyo8.below hOc8).only ho10 (hleftc.ne_held (hyo8.below hOc8) (by decide))
          have hrd10 := hrdc.only ho10 (hleftc.ne_map hrdc.blk (by decide)) fun b o e h => by have := (HA.out b o e).2; have := hALlt b h; omega
          have hOw10 : Only (fun b => b = g ∨ b = gs) w w10 := (hOw8.trans (Only.of_fresh hOc8)).more ho10 fun b hb h => by have := hALlt b h; omega
          refine hK.out _ _ ⟨hblk10.cell 2, hblk10.frozen 2⟩ (fun hHeld => ?_)
          refine fun _ => ⟨by kernel_rfl, ?_⟩
          have f102 := hblk10.frozen 2
          have c102 : w10.cell? ⟨gs, 2, none⟩ = some (.slice AL k cL) := hblk10.cell 2
          have hgs10 := hblk10.lt
          have Hblk10 := Lib.hid hblk10
          have Hown10 := Lib.hid hown10
          have Hrow10 := Lib.hid hrow10
          have Hown10b := Lib.hid hown10b
          have Hyo10 := Lib.hid hyo10
          have Hrd10 := Lib.hid hrd10
          have HOw10 := Lib.hid hOw10
          clear hK K hHeld hblk10 hown10 hrow10 hown10b hyo10 hrd10 hOw10 hgrow10 hat10 ho10 hblkc hleftc hownc hrdc hOc hOc8 hRc hO9 hS9 hblk8 hown8 hleft8 hown8b hyo8 hrd8 hOw8 ho8 s2 f2
          go_wp2_with fail
          refine ⟨⟨k + 1, A2, c2', AL2, cL2, told ++ [y], by omega, by go_num, ⟨?_, ?_, ?_, ?_, ?_, ?_⟩, ?_, ?_⟩, by simp [intOf]; omega⟩
          · exact Blk.setL (cs := [.slice (some ⟨pb, poff, none⟩) all.length cW, .slice A2 (k + 1) c2', .slice AL k cL, .pointer (some ⟨g, 0, none⟩)]) Hblk10.out 2 _
          · have h := Hrow10.out.only (S := fun b => b = gs) (w' := w10.setCell ⟨gs, 2, none⟩ (.slice AL2 (k + 1) cL2)) ((Only.refl (fun b => b = gs) w10).setCell (p := ⟨gs, 2, none⟩) (.inl rfl) _) fun b o e h => Hrow10.out.ne_blk Hblk10.out (by decide) b o e h
            rw [List.flatMap_append]
            simpa using h
          · have h := Hown10.out.only (S := fun b => b = gs) (w' := w10.setCell ⟨gs, 2, none⟩ (.slice AL2 (k + 1) cL2)) ((Only.refl (fun b => b = gs) w10).setCell (p := ⟨gs, 2, none⟩) (.inl rfl) _) fun b o e h => Hown10.out.ne_blk Hblk10.out (by decide) b o e h
            have e : leftV all (k + 1) = leftV all k ++ [.int .i64 (lv : Int)] := by
              unfold leftV
              rw [List.range_succ, List.map_append, Hlv.out, Hbs.out]
              rfl
            rw [e]
            exact h
          · rw [List.length_append, HS6.out.len]; rfl
          · intro j hj h2
            rcases Nat.lt_or_ge j k with h | h
            · obtain ⟨z, hz, hz2⟩ := HS6.out.mat j h h2
              exact ⟨z, by rw [List.getElem?_append_left (by rw [HS6.out.len]; exact h)]; exact hz, hz2⟩
            · obtain rfl : j = k := by omega
              exact ⟨y, by rw [List.getElem?_append_right (by rw [HS6.out.len]; exact h), HS6.out.len, Nat.sub_self]; rfl, by rw [← Hxe.out]; exact Has.out⟩
          · intro z hz
            have hz2 : Held w10 w.heap.size z.p := by
              rcases List.mem_append.1 hz with h | h
              · exact Hown10b.out z h
              · rcases List.mem_singleton.1 h with rfl
                exact Hyo10.out
            exact hz2.only ((Only.refl (fun b => b = gs) w10).setCell (p := ⟨gs, 2, none⟩) (.inl rfl) _) fun b o e h => hz2.ne_blk Hblk10.out (by decide) b o e h
          · exact Hrd10.out.only ((Only.refl (fun b => b = gs) w10).setCell (p := ⟨gs, 2, none⟩) (.inl rfl) _) (fun h => hgs h.symm) fun b o e h => (HA.out b o e).1 h
          · exact HOw10.out.setCell (p := ⟨gs, 2, none⟩) (.inl (.inr rfl)) _
        · have hbv : (x.n == 1) = false := by rw [beq_eq_false_iff_ne]; exact hb1
          have Hn := Lib.hid (show x.n = 0 by omega)
          clear hb1 hbool
          go_wp2_with fail
          rw [← Hwa.out]
          refine hc.mono ?_
          rintro e w5 ⟨he5, hrd5, ho5⟩
          rw [hbv] at he5
          subst he5
          have hB5 := HBa.out.only ho5 (by omega)
          have hf5 := hB5.frozen 1
          have hc51 : w5.cell? ⟨wr.heap.size, 1, none⟩ = some (.int .i64 0) := hB5.cell 1
          have hgi := hB5.lt
          have Hrd5 := Lib.hid hrd5
          have Ho5 := Lib.hid ho5
          have HB5 := Lib.hid hB5
          clear hc hrd5 ho5 hB5
          go_wp2_with fail
          obtain ⟨y, hy⟩ : ∃ y : Item, y = ⟨x.kind, 0, ⟨none, 0, []⟩⟩ := ⟨_, rfl⟩
          obtain ⟨w6, hw6⟩ : ∃ w6, w6 = w5 := ⟨_, rfl⟩
          have hB6 : Blk w6 wr.heap.size 30 (itemCells y).toArray := by rw [hw6, hy]; exact HB5.out
          have ho6 : Only (fun b => b = g) wr w6 := by rw [hw6]; exact (Only.of_fresh Hba.out).trans Ho5.out
          have hrd6 : Rd w6 g A c bs (formsL (all.take (k + 1))).length false 0 := by
            rw [hw6, Hnx.out]
            exact Hrd5.out
          have has : As y x := by
            rw [hy]
            exact ⟨rfl, fun _ => by have := Hn.out; dsimp only; omega, fun h => absurd h (by have := Hkd.out; omega), fun _ => rfl⟩
          have hyo : Held w6 w.heap.size y.p := by rw [hy]; exact Held.empty _ _
          have hS6 := HS.out.step Hrd2.out.blk ho6 hgs
          have c0 : w6.cell? ⟨wr.heap.size, 0, none⟩ = some (.int .i64 y.kind) := hB6.cell 0
          have c1 : w6.cell? ⟨wr.heap.size, 1, none⟩ = some (.int .i64 y.n) := hB6.cell 1
          have c2 : w6.cell? ⟨wr.heap.size, 2, none⟩ = some (.slice y.p.A y.p.ys.length y.p.c) := hB6.cell 2
          rw [← hw6]
          have hgi6 := hB6.lt
          have HB6 := Lib.hid hB6
          have HO6 := Lib.hid (HO.out.trans (ho6.mono fun _ _ e => .inl e))
          have Hrd6 := Lib.hid hrd6
          have Has := Lib.hid has
          have Hyo := Lib.hid hyo
          have HS6 := Lib.hid hS6
          clear hw6 hB6 ho6 hrd6 has hyo hS6 HB5 Ho5 Hrd5 hf5 hc51 hy HBa Hrda Hwa HS Hrd2 HO s0 ck cp hgi
          have s1 : w6.cell? ⟨gs, 1, none⟩ = some (.slice AT k cT) := HS6.out.blk.cell 1
          have f1 := HS6.out.blk.frozen 1
          have hgs6 := HS6.out.blk.lt
          have hb6 : w.heap.size ≤ w6.heap.size := HO6.out.size
          have hfa : ∀ o, ((w6.alloc o).drew).frozen? ⟨gs, 1, none⟩ = false := fun o => by rw [(ocell (((Only.refl (fun _ => False) w6).alloc o).drew)).2 gs 1 hgs6 (fun h => h)]; exact f1
          refine region_heldT 8 (fun w' => w'.cell? ⟨gs, 1, none⟩ = some (.slice AT k cT) ∧ w'.frozen? ⟨gs, 1, none⟩ = false ∧ w'.cell? ⟨wr.heap.size, 0, none⟩ = some (.int .i64 y.kind) ∧ w'.cell? ⟨wr.heap.size, 1, none⟩ = some (.int .i64 y.n) ∧ w'.cell? ⟨wr.heap.size, 2, none⟩ = some (.slice y.p.A y.p.ys.length y.p.c)) (by kernel_rfl) (by decide) ?_
          have hS0 : (fun w' : World => w'.cell? ⟨gs, 1, none⟩ = some (.slice AT k cT) ∧ w'.frozen? ⟨gs, 1, none⟩ = false ∧ w'.cell? ⟨wr.heap.size, 0, none⟩ = some (.int .i64 y.kind) ∧ w'.cell? ⟨wr.heap.size, 1, none⟩ = some (.int .i64 y.n) ∧ w'.cell? ⟨wr.heap.size, 2, none⟩ = some (.slice y.p.A y.p.ys.length y.p.c)) w6.drew := ⟨s1, f1, c0, c1, c2⟩
          refine HeadW.take 0 (v := .pointer (some ⟨gs, 0, none⟩)) rfl (by kernel_rfl) (by kernel_rfl) (by kernel_rfl) (by decide) (by decide) (fun _ _ _ hL => seqB_ready hL.1) (by kernel_rfl) (by kernel_rfl) (fun _ _ _ h => h) hS0 (.inl ⟨by rfl, by intro w hSw; (try dsimp only at hSw); go_simp⟩) ?_
          simp only [Act.put, List.setIfInBounds_toArray]
          refine HeadW.take 1 (v := .pointer (some ⟨gs, 0, none⟩)) rfl (by kernel_rfl) (by kernel_rfl) (by kernel_rfl) (by decide) (by decide) (fun _ _ _ hL => seqB_ready hL.1) (by kernel_rfl) (by kernel_rfl) (fun _ _ _ h => h) hS0 (.inl ⟨by rfl, by intro w hSw; (try dsimp only at hSw); go_simp⟩) ?_
          simp only [Act.put]
          refine HeadW.take 2 (v := .pointer (some ⟨gs, 0, none⟩)) rfl (by kernel_rfl) (by kernel_rfl) (by kernel_rfl) (by decide) (by decide) (fun _ _ _ hL => seqB_ready hL.1) (by kernel_rfl) (by kernel_rfl) (fun _ _ _ h => h) hS0 (.inl ⟨by rfl, by intro w hSw; (try dsimp only at hSw); go_simp⟩) ?_
          simp only [Act.put]
          refine HeadW.take 3 (v := .pointer (some ⟨gs, 1, none⟩)) rfl (by kernel_rfl) (by kernel_rfl) (by kernel_rfl) (by decide) (by decide) (fun _ _ _ hL => seqB_ready hL.1) (by kernel_rfl) (by kernel_rfl) (fun _ _ _ h => h) hS0 (.inl ⟨by rfl, by intro w hSw; (try dsimp only at hSw); go_simp⟩) ?_
          simp only [Act.put]
          refine HeadW.take 4 (v := .slice AT k cT) rfl (by kernel_rfl) (by kernel_rfl) (by kernel_rfl) (by decide) (by decide) (fun _ _ _ hL => seqB_ready hL.1) (by kernel_rfl) (by kernel_rfl) (fun _ _ _ h => h) hS0 (.inl ⟨by rfl, by intro w hSw; (try dsimp only at hSw); go_simp⟩) ?_
          simp only [Act.put]
          refine HeadW.take 5 (v := .agg #[.int .i64 y.kind, .int .i64 y.n, .slice y.p.A y.p.ys.length y.p.c]) rfl (by kernel_rfl) (by kernel_rfl) (by kernel_rfl) (by decide) (by decide) (fun _ _ _ hL => seqB_ready hL.1) (by kernel_rfl) (by kernel_rfl) (fun _ _ _ h => h) hS0 (.inl ⟨by rfl, by intro w hSw; (try dsimp only at hSw); go_simp⟩) ?_
          simp only [Act.put]
          refine HeadW.one 6 rfl (by decide) (by kernel_rfl) fun K hK => ?_
          go_simp
          obtain ⟨wb, hwb⟩ : ∃ wb, wb = (w6.alloc (.cells #[.int .i64 y.kind, .int .i64 y.n, .slice y.p.A y.p.ys.length y.p.c] 30)).drew := ⟨_, rfl⟩
          have hOb : Below w6.heap.size w6 wb := by rw [hwb]; exact below_drewN ((Below.refl _ _).alloc (Nat.le_refl _) _) 1
          have hRb : RV wb (some ⟨w6.heap.size, 0, none⟩) (itemCells y) := by rw [hwb]; exact (RV.of_blk (Blk.new w6 _ #[_, _, _])).drew
          have hfb : wb.frozen? ⟨gs, 1, none⟩ = false := by rw [hwb]; exact hfa _
          have hzb : wb.heap.size = w6.heap.size + 1 := by rw [hwb]; simp
          have hSb := HS6.out.below hOb
          have hrdb := Hrd6.out.below hOb
          rw [← hwb]
          refine hK.out _ _ ⟨hSb.blk.cell 1, hfb, by rw [(bcell hOb).1 _ _ hgi6]; exact c0, by rw [(bcell hOb).1 _ _ hgi6]; exact c1, by rw [(bcell hOb).1 _ _ hgi6]; exact c2⟩ (fun hHeld => ?_)
          clear hK K hfa hS0 hwb s1 f1
          refine HeadW.one 7 rfl (by decide) (by kernel_rfl) fun K hK => ?_
          refine step_app (by rfl) (.tmp 74) (.tmp 76) eItem (by rfl) (base := w.heap.size) (n := k) (c := cT) (A := AT) (vs := told.flatMap itemCells) (by rfl) hSb.rowT (A' := some ⟨w6.heap.size, 0, none⟩) (m := 1) (c' := 1) (us := itemCells y) (by rfl) hRb rfl (items_one [y]) (by unfold maxLen; omega) (by omega) (by omega) (by simp) ?_
          intro A2 c2' w7 hown7 hgrow7 hat7
          have ho7 : Only (fun b => AT.map (·.block) = some b) wb w7 := Only.of_grown hgrow7 fun b e => e
          have hblk7 := hSb.blk.only ho7 (hSb.rowT.ne_map hSb.blk (by decide))
          have hleft7 := hSb.left.only ho7 (hSb.rowT.ne_map2 hSb.left (by decide))
          have hown7b : ∀ z ∈ told, Held w7 w.heap.size z.p := fun z hz => (hSb.own z hz).only ho7 (hSb.rowT.ne_held (hSb.own z hz) (by decide))
          have hyo7 : Held w7 w.heap.size y.p := (Hyo.out.below hOb).only ho7 (hSb.rowT.ne_held (Hyo.out.below hOb) (by decide))
          have hrd7 := hrdb.only ho7 (hSb.rowT.ne_map hrdb.blk (by decide)) fun b o e h => by have := (HA.out b o e).2; have := (HATlt.out b h).1; omega
          have hOw7 : Only (fun b => b = g ∨ b = gs) w w7 := (HO6.out.trans (Only.of_fresh hOb)).more ho7 fun b hb h => by have := (HATlt.out b h).1; omega
          have hgi7 : w7.cell? ⟨wr.heap.size, 0, none⟩ = some (.int .i64 y.kind) ∧ w7.cell? ⟨wr.heap.size, 1, none⟩ = some (.int .i64 y.n) ∧ w7.cell? ⟨wr.heap.size, 2, none⟩ = some (.slice y.p.A y.p.ys.length y.p.c) := by
            have hni : ¬ (AT.map (·.block) = some wr.heap.size) := fun h => by have := (HATlt.out _ h).2; omega
            refine ⟨?_, ?_, ?_⟩ <;> rw [(ocell ho7).1 _ _ (by omega) hni, (bcell hOb).1 _ _ hgi6] <;> assumption
          refine hK.out _ _ ⟨hblk7.cell 1, hblk7.frozen 1, hgi7⟩ (fun hHeld => ?_)
          refine fun _ => ⟨by kernel_rfl, ?_⟩
          have f71 := hblk7.frozen 1
          have c71 : w7.cell? ⟨gs, 1, none⟩ = some (.slice AT k cT) := hblk7.cell 1
          have hgs7 := hblk7.lt
          have Hblk7 := Lib.hid hblk7
          have Hown7 := Lib.hid hown7
          have Hleft7 := Lib.hid hleft7
          have Hown7b := Lib.hid hown7b
          have Hyo7 := Lib.hid hyo7
          have Hrd7 := Lib.hid hrd7
          have HOw7 := Lib.hid hOw7
          clear hK K hHeld hblk7 hown7 hleft7 hown7b hyo7 hrd7 hOw7 hgi7 hgrow7 hat7 ho7 hSb hrdb hOb hRb hfb hzb c0 c1 c2 Hba
          go_wp2_with fail
          obtain ⟨w8, hw8⟩ : ∃ w8, w8 = w7.setCell ⟨gs, 1, none⟩ (.slice A2 (k + 1) c2') := ⟨_, rfl⟩
          rw [← hw8]
          have ho8 : Only (fun b => b = gs) w7 w8 := by rw [hw8]; exact (Only.refl (fun b => b = gs) w7).setCell (p := ⟨gs, 1, none⟩) (.inl rfl) _
          have hblk8 : Blk w8 gs 83 #[.slice (some ⟨pb, poff, none⟩) all.length cW, .slice A2 (k + 1) c2', .slice AL k cL, .pointer (some ⟨g, 0, none⟩)] := by
            rw [hw8]; exact Blk.setL (cs := [.slice (some ⟨pb, poff, none⟩) all.length cW, .slice AT k cT, .slice AL k cL, .pointer (some ⟨g, 0, none⟩)]) Hblk7.out 1 _
          clear hw8
          have hown8 := Hown7.out.only ho8 fun b o e h => Hown7.out.ne_blk Hblk7.out (by decide) b o e h
          have hleft8 := Hleft7.out.only ho8 fun b o e h => Hleft7.out.ne_blk Hblk7.out (by decide) b o e h
          have hown8b : ∀ z ∈ told, Held w8 w.heap.size z.p := fun z hz => (Hown7b.out z hz).only ho8 fun b o e h => (Hown7b.out z hz).ne_blk Hblk7.out (by decide) b o e h
          have hyo8 := Hyo7.out.only ho8 fun b o e h => Hyo7.out.ne_blk Hblk7.out (by decide) b o e h
          have hrd8 := Hrd7.out.only ho8 (fun h => hgs h.symm) fun b o e h => (HA.out b o e).1 h
          have hOw8 : Only (fun b => b = g ∨ b = gs) w w8 := HOw7.out.trans (ho8.mono fun _ _ e => .inr e)
          have s2 : w8.cell? ⟨gs, 2, none⟩ = some (.slice AL k cL) := hblk8.cell 2
          have f2 := hblk8.frozen 2
          have hgs8 := hblk8.lt
          have hb8 : w.heap.size ≤ w8.heap.size := hOw8.size
          have hS0 : (fun w' : World => w'.cell? ⟨gs, 2, none⟩ = some (.slice AL k cL) ∧ w'.frozen? ⟨gs, 2, none⟩ = false) w8.drew := ⟨s2, f2⟩
          refine region_heldT 9 (fun w' => w'.cell? ⟨gs, 2, none⟩ = some (.slice AL k cL) ∧ w'.frozen? ⟨gs, 2, none⟩ = false) (by kernel_rfl) (by decide) ?_
          refine HeadW.take 0 (v := .pointer (some ⟨gs, 0, none⟩)) rfl (by kernel_rfl) (by kernel_rfl) (by kernel_rfl) (by decide) (by decide) (fun _ _ _ hL => seqB_ready hL.1) (by kernel_rfl) (by kernel_rfl) (fun _ _ _ h => h) hS0 (.inl ⟨by rfl, by intro w hSw; (try dsimp only at hSw); go_simp⟩) ?_
          simp only [Act.put, List.setIfInBounds_toArray]
          refine HeadW.take 1 (v := .pointer (some ⟨gs, 0, none⟩)) rfl (by kernel_rfl) (by kernel_rfl) (by kernel_rfl) (by decide) (by decide) (fun _ _ _ hL => seqB_ready hL.1) (by kernel_rfl) (by kernel_rfl) (fun _ _ _ h => h) hS0 (.inl ⟨by rfl, by intro w hSw; (try dsimp only at hSw); go_simp⟩) ?_
          simp only [Act.put]
          refine HeadW.take 2 (v := .pointer (some ⟨gs, 0, none⟩)) rfl (by kernel_rfl) (by kernel_rfl) (by kernel_rfl) (by decide) (by decide) (fun _ _ _ hL => seqB_ready hL.1) (by kernel_rfl) (by kernel_rfl) (fun _ _ _ h => h) hS0 (.inl ⟨by rfl, by intro w hSw; (try dsimp only at hSw); go_simp⟩) ?_
          simp only [Act.put]
          refine HeadW.take 3 (v := .pointer (some ⟨gs, 2, none⟩)) rfl (by kernel_rfl) (by kernel_rfl) (by kernel_rfl) (by decide) (by decide) (fun _ _ _ hL => seqB_ready hL.1) (by kernel_rfl) (by kernel_rfl) (fun _ _ _ h => h) hS0 (.inl ⟨by rfl, by intro w hSw; (try dsimp only at hSw); go_simp⟩) ?_
          simp only [Act.put]
          refine HeadW.take 4 (v := .slice AL k cL) rfl (by kernel_rfl) (by kernel_rfl) (by kernel_rfl) (by decide) (by decide) (fun _ _ _ hL => seqB_ready hL.1) (by kernel_rfl) (by kernel_rfl) (fun _ _ _ h => h) hS0 (.inl ⟨by rfl, by intro w hSw; (try dsimp only at hSw); go_simp⟩) ?_
          simp only [Act.put]
          refine HeadW.take 5 (v := .pointer (some ⟨g, 0, none⟩)) rfl (by kernel_rfl) (by kernel_rfl) (by kernel_rfl) (by decide) (by decide) (fun _ _ _ hL => seqB_ready hL.1) (by kernel_rfl) (by kernel_rfl) (fun _ _ _ h => h) hS0 (.inl ⟨by rfl, by intro w hSw; (try dsimp only at hSw); go_simp⟩) ?_
          simp only [Act.put]
          refine HeadW.one 6 rfl (by decide) (by kernel_rfl) fun K hK => ?_
          go_simp
          refine (rLeft_any g c _ A bs w8.drew (hrd8.drewN 1) hl).mono ?_
          rintro e _ ⟨rfl, m, rfl⟩
          have hzl : (formsL (all.take (k + 1))).length ≤ bs.length := hrd8.le
          obtain ⟨lv, hlv⟩ : ∃ lv : Nat, lv = bs.length - (formsL (all.take (k + 1))).length := ⟨_, rfl⟩
          rw [← hlv]
          obtain ⟨w9, hw9⟩ : ∃ w9, w9 = w8.drew.drewN m := ⟨_, rfl⟩
          have hO9 : Below w8.heap.size w8 w9 := by rw [hw9]; exact below_drewN (below_drewN (Below.refl _ _) 1) m
          have hz9 : w9.heap.size = w8.heap.size := by rw [hw9]; rfl
          have hS9 : w9.cell? ⟨gs, 2, none⟩ = some (.slice AL k cL) ∧ w9.frozen? ⟨gs, 2, none⟩ = false := by rw [hw9]; exact ⟨s2, f2⟩
          rw [← hw9]
          have Hlv := Lib.hid hlv
          clear hw9 hlv
          refine hK.out _ _ hS9 (fun hHeld => ?_)
          clear hK K hHeld hS0
          refine HeadW.one 7 rfl (by decide) (by kernel_rfl) fun K hK => ?_
          go_simp
          obtain ⟨wc, hwc⟩ : ∃ wc, wc = w9.alloc (.cells #[.int .i64 (lv : Int)] 3) := ⟨_, rfl⟩
          have hOc : Below w9.heap.size w9 wc := by rw [hwc]; exact (Below.refl _ _).alloc (Nat.le_refl _) _
          have hRc : RV wc (some ⟨w9.heap.size, 0, none⟩) [.int .i64 (lv : Int)] := by rw [hwc]; exact RV.of_blk (Blk.new w9 _ #[_])
          have hzc : wc.heap.size = w9.heap.size + 1 := by rw [hwc]; simp
          rw [hz9] at hRc
          have hOc8 : Below w8.heap.size w8 wc := hO9.trans (hOc.mono (by omega))
          have hblkc := hblk8.below hOc8 hgs8
          have hleftc := hleft8.below hOc8 (Nat.le_refl _)
          have hownc := hown8.below hOc8 (Nat.le_refl _)
          have hrdc := hrd8.below hOc8
          rw [← hwc]
          clear hwc
          refine hK.out _ _ ⟨hblkc.cell 2, hblkc.frozen 2⟩ (fun hHeld => ?_)
          clear hK K hHeld
          refine HeadW.one 8 rfl (by decide) (by kernel_rfl) fun K hK => ?_
          refine step_app (by rfl) (.tmp 84) (.tmp 87) eInt (by rfl) (base := w.heap.size) (n := k) (c := cL) (A := AL) (vs := leftV all k) (by rfl) hleftc (A' := some ⟨w8.heap.size, 0, none⟩) (m := 1) (c' := 1) (us := [.int .i64 (lv : Int)]) (by rfl) hRc rfl (fun v hv => by rcases List.mem_singleton.1 hv with rfl; rfl) (by unfold maxLen; omega) (by omega) (by omega) (by simp) ?_
          intro AL2 cL2 w10 hown10 hgrow10 hat10
          have ho10 : Only (fun b => AL.map (·.block) = some b) wc w10 := Only.of_grown hgrow10 fun b e => e
          have hALlt : ∀ b, AL.map (·.block) = some b → w.heap.size ≤ b := fun b h => (Own.row hleft8 b h).1
          have hblk10 := hblkc.only ho10 (hleftc.ne_map hblkc (by decide))
          have hrow10 := hownc.only ho10 (hleftc.ne_map2 hownc (by decide))
          have hown10b : ∀ z ∈ told, Held w10 w.heap.size z.p := fun z hz => ((hown8b z hz).below hOc8).only ho10 (hleftc.ne_held ((hown8b z hz).below hOc8) (by decide))
          have hyo10 : Held w10 w.heap.size y.p := (hyo8.below hOc8).only ho10 (hleftc.ne_held (hyo8.below hOc8) (by decide))
          have hrd10 := hrdc.only ho10 (hleftc.ne_map hrdc.blk (by decide)) fun b o e h => by have := (HA.out b o e).2; have := hALlt b h; omega
          have hOw10 : Only (fun b => b = g ∨ b = gs) w w10 := (hOw8.trans (Only.of_fresh hOc8)).more ho10 fun b hb h => by have := hALlt b h; omega
          refine hK.out _ _ ⟨hblk10.cell 2, hblk10.frozen 2⟩ (fun hHeld => ?_)
          refine fun _ => ⟨by kernel_rfl, ?_⟩
          have f102 := hblk10.frozen 2
          have c102 : w10.cell? ⟨gs, 2, none⟩ = some (.slice AL k cL) := hblk10.cell 2
          have hgs10 := hblk10.lt
          have Hblk10 := Lib.hid hblk10
          have Hown10 := Lib.hid hown10
          have Hrow10 := Lib.hid hrow10
          have Hown10b := Lib.hid hown10b
          have Hyo10 := Lib.hid hyo10
          have Hrd10 := Lib.hid hrd10
          have HOw10 := Lib.hid hOw10
          clear hK K hHeld hblk10 hown10 hrow10 hown10b hyo10 hrd10 hOw10 hgrow10 hat10 ho10 hblkc hleftc hownc hrdc hOc hOc8 hRc hO9 hS9 hblk8 hown8 hleft8 hown8b hyo8 hrd8 hOw8 ho8 s2 f2
          go_wp2_with fail
          refine ⟨⟨k + 1, A2, c2', AL2, cL2, told ++ [y], by omega, by go_num, ⟨?_, ?_, ?_, ?_, ?_, ?_⟩, ?_, ?_⟩, by simp [intOf]; omega⟩
          · exact Blk.setL (cs := [.slice (some ⟨pb, poff, none⟩) all.length cW, .slice A2 (k + 1) c2', .slice AL k cL, .pointer (some ⟨g, 0, none⟩)]) Hblk10.out 2 _
          · have h := Hrow10.out.only (S := fun b => b = gs) (w' := w10.setCell ⟨gs, 2, none⟩ (.slice AL2 (k + 1) cL2)) ((Only.refl (fun b => b = gs) w10).setCell (p := ⟨gs, 2, none⟩) (.inl rfl) _) fun b o e h => Hrow10.out.ne_blk Hblk10.out (by decide) b o e h
            rw [List.flatMap_append]
            simpa using h
          · have h := Hown10.out.only (S := fun b => b = gs) (w' := w10.setCell ⟨gs, 2, none⟩ (.slice AL2 (k + 1) cL2)) ((Only.refl (fun b => b = gs) w10).setCell (p := ⟨gs, 2, none⟩) (.inl rfl) _) fun b o e h => Hown10.out.ne_blk Hblk10.out (by decide) b o e h
            have e : leftV all (k + 1) = leftV all k ++ [.int .i64 (lv : Int)] := by
              unfold leftV
              rw [List.range_succ, List.map_append, Hlv.out, Hbs.out]
              rfl
            rw [e]
            exact h
          · rw [List.length_append, HS6.out.len]; rfl
          · intro j hj h2
            rcases Nat.lt_or_ge j k with h | h
            · obtain ⟨z, hz, hz2⟩ := HS6.out.mat j h h2
              exact ⟨z, by rw [List.getElem?_append_left (by rw [HS6.out.len]; exact h)]; exact hz, hz2⟩
            · obtain rfl : j = k := by omega
              exact ⟨y, by rw [List.getElem?_append_right (by rw [HS6.out.len]; exact h), HS6.out.len, Nat.sub_self]; rfl, by rw [← Hxe.out]; exact Has.out⟩
          · intro z hz
            have hz2 : Held w10 w.heap.size z.p := by
              rcases List.mem_append.1 hz with h | h
              · exact Hown10b.out z h
              · rcases List.mem_singleton.1 h with rfl
                exact Hyo10.out
            exact hz2.only ((Only.refl (fun b => b = gs) w10).setCell (p := ⟨gs, 2, none⟩) (.inl rfl) _) fun b o e h => hz2.ne_blk Hblk10.out (by decide) b o e h
          · exact Hrd10.out.only ((Only.refl (fun b => b = gs) w10).setCell (p := ⟨gs, 2, none⟩) (.inl rfl) _) (fun h => hgs h.symm) fun b o e h => (HA.out b o e).1 h
          · exact HOw10.out.setCell (p := ⟨gs, 2, none⟩) (.inl (.inr rfl)) _
      by_cases h4 : x.kind = 4
      · clear h1 h2 h3
        have q1 : (x.kind == 1) = false := by rw [beq_eq_false_iff_ne]; omega
        have q2 : (x.kind == 2) = false := by rw [beq_eq_false_iff_ne]; omega
        have q3 : (x.kind == 3) = false := by rw [beq_eq_false_iff_ne]; omega
        have g2 : (x.kind == 4) = true := by rw [beq_iff_eq]; exact h4
        have hform : itemL x = formL x.p.ys.length ++ x.p.ys := by unfold itemL; rw [if_neg (by omega), if_neg (by omega), if_neg (by omega), if_neg (by omega)]
        have hpar := rBytes_form (formsL (all.take k)) x.p.ys (formsL (all.drop (k + 1))) (by have := Hx.out.len; omega)
        rw [← hform, ← Hsp.out] at hpar
        have hc := rBytes_any g c _ A bs wa Hrda.out hl
        rw [hpar] at hc
        have Hkd := Lib.hid h4
        clear hform hpar h4
        go_wp2_with fail
        rw [← Hwa.out]
        refine hc.mono ?_
        rintro e w5 ⟨A5, c5, rfl, hown5, hrd5, ho5⟩
        have hown5b := hown5.mono (base' := w.heap.size) (by have := HO.out.size; omega)
        have Hown5 := Lib.hid hown5b
        clear hown5 hown5b
        have hB5 := HBa.out.only ho5 (by omega)
        have hf5 := hB5.frozen 2
        have hc51 : w5.cell? ⟨wr.heap.size, 2, none⟩ = some (.slice none 0 0) := hB5.cell 2
        have hgi := hB5.lt
        have Hrd5 := Lib.hid hrd5
        have Ho5 := Lib.hid ho5
        have HB5 := Lib.hid hB5
        clear hc hrd5 ho5 hB5
        go_wp2_with fail
        obtain ⟨y, hy⟩ : ∃ y : Item, y = ⟨x.kind, 0, ⟨A5, c5, x.p.ys⟩⟩ := ⟨_, rfl⟩
        obtain ⟨w6, hw6⟩ : ∃ w6, w6 = w5.setCell ⟨wr.heap.size, 2, none⟩ (.slice A5 x.p.ys.length c5) := ⟨_, rfl⟩
        have hB6 : Blk w6 wr.heap.size 30 (itemCells y).toArray := by rw [hw6, hy]; exact Blk.setL (cs := [.int .i64 x.kind, .int .i64 0, .slice none 0 0]) HB5.out 2 _
        have ho6 : Only (fun b => b = g) wr w6 := by rw [hw6]; exact (((Only.of_fresh Hba.out).trans Ho5.out).setCell (p := ⟨wr.heap.size, 2, none⟩) (.inr (Nat.le_refl _)) _)
        have hrd6 : Rd w6 g A c bs (formsL (all.take (k + 1))).length false 0 := by
          rw [hw6, Hnx.out]
          exact Hrd5.out.only ((Only.refl (fun b => b = wr.heap.size) w5).setCell (p := ⟨wr.heap.size, 2, none⟩) (.inl rfl) _) (by omega) fun b o e => by have := (HA.out b o e).2; have := HO.out.size; omega
        have has : As y x := by
          rw [hy]
          exact ⟨rfl, fun h => absurd h (by have := Hkd.out; omega), fun _ => rfl, fun h => absurd h (show ¬ x.kind ≤ 3 by have := Hkd.out; omega)⟩
        have hyo : Held w6 w.heap.size y.p := by rw [hy, hw6]; exact (Held.of_own Hown5.out).only ((Only.refl (fun b => b = wr.heap.size) w5).setCell (p := ⟨wr.heap.size, 2, none⟩) (.inl rfl) _) fun b o e h => (Held.of_own Hown5.out).ne_blk HB5.out (by decide) b o e h
        have hS6 := HS.out.step Hrd2.out.blk ho6 hgs
        have c0 : w6.cell? ⟨wr.heap.size, 0, none⟩ = some (.int .i64 y.kind) := hB6.cell 0
        have c1 : w6.cell? ⟨wr.heap.size, 1, none⟩ = some (.int .i64 y.n) := hB6.cell 1
        have c2 : w6.cell? ⟨wr.heap.size, 2, none⟩ = some (.slice y.p.A y.p.ys.length y.p.c) := hB6.cell 2
        rw [← hw6]
        have hgi6 := hB6.lt
        have HB6 := Lib.hid hB6
        have HO6 := Lib.hid (HO.out.trans (ho6.mono fun _ _ e => .inl e))
        have Hrd6 := Lib.hid hrd6
        have Has := Lib.hid has
        have Hyo := Lib.hid hyo
        have HS6 := Lib.hid hS6
        clear hw6 hB6 ho6 hrd6 has hyo hS6 HB5 Ho5 Hrd5 hf5 hc51 hy HBa Hrda Hwa HS Hrd2 HO s0 ck cp hgi
        have s1 : w6.cell? ⟨gs, 1, none⟩ = some (.slice AT k cT) := HS6.out.blk.cell 1
        have f1 := HS6.out.blk.frozen 1
        have hgs6 := HS6.out.blk.lt
        have hb6 : w.heap.size ≤ w6.heap.size := HO6.out.size
        have hfa : ∀ o, ((w6.alloc o).drew).frozen? ⟨gs, 1, none⟩ = false := fun o => by rw [(ocell (((Only.refl (fun _ => False) w6).alloc o).drew)).2 gs 1 hgs6 (fun h => h)]; exact f1
        refine region_heldT 8 (fun w' => w'.cell? ⟨gs, 1, none⟩ = some (.slice AT k cT) ∧ w'.frozen? ⟨gs, 1, none⟩ = false ∧ w'.cell? ⟨wr.heap.size, 0, none⟩ = some (.int .i64 y.kind) ∧ w'.cell? ⟨wr.heap.size, 1, none⟩ = some (.int .i64 y.n) ∧ w'.cell? ⟨wr.heap.size, 2, none⟩ = some (.slice y.p.A y.p.ys.length y.p.c)) (by kernel_rfl) (by decide) ?_
        have hS0 : (fun w' : World => w'.cell? ⟨gs, 1, none⟩ = some (.slice AT k cT) ∧ w'.frozen? ⟨gs, 1, none⟩ = false ∧ w'.cell? ⟨wr.heap.size, 0, none⟩ = some (.int .i64 y.kind) ∧ w'.cell? ⟨wr.heap.size, 1, none⟩ = some (.int .i64 y.n) ∧ w'.cell? ⟨wr.heap.size, 2, none⟩ = some (.slice y.p.A y.p.ys.length y.p.c)) w6.drew := ⟨s1, f1, c0, c1, c2⟩
        refine HeadW.take 0 (v := .pointer (some ⟨gs, 0, none⟩)) rfl (by kernel_rfl) (by kernel_rfl) (by kernel_rfl) (by decide) (by decide) (fun _ _ _ hL => seqB_ready hL.1) (by kernel_rfl) (by kernel_rfl) (fun _ _ _ h => h) hS0 (.inl ⟨by rfl, by intro w hSw; (try dsimp only at hSw); go_simp⟩) ?_
        simp only [Act.put, List.setIfInBounds_toArray]
        refine HeadW.take 1 (v := .pointer (some ⟨gs, 0, none⟩)) rfl (by kernel_rfl) (by kernel_rfl) (by kernel_rfl) (by decide) (by decide) (fun _ _ _ hL => seqB_ready hL.1) (by kernel_rfl) (by kernel_rfl) (fun _ _ _ h => h) hS0 (.inl ⟨by rfl, by intro w hSw; (try dsimp only at hSw); go_simp⟩) ?_
        simp only [Act.put]
        refine HeadW.take 2 (v := .pointer (some ⟨gs, 0, none⟩)) rfl (by kernel_rfl) (by kernel_rfl) (by kernel_rfl) (by decide) (by decide) (fun _ _ _ hL => seqB_ready hL.1) (by kernel_rfl) (by kernel_rfl) (fun _ _ _ h => h) hS0 (.inl ⟨by rfl, by intro w hSw; (try dsimp only at hSw); go_simp⟩) ?_
        simp only [Act.put]
        refine HeadW.take 3 (v := .pointer (some ⟨gs, 1, none⟩)) rfl (by kernel_rfl) (by kernel_rfl) (by kernel_rfl) (by decide) (by decide) (fun _ _ _ hL => seqB_ready hL.1) (by kernel_rfl) (by kernel_rfl) (fun _ _ _ h => h) hS0 (.inl ⟨by rfl, by intro w hSw; (try dsimp only at hSw); go_simp⟩) ?_
        simp only [Act.put]
        refine HeadW.take 4 (v := .slice AT k cT) rfl (by kernel_rfl) (by kernel_rfl) (by kernel_rfl) (by decide) (by decide) (fun _ _ _ hL => seqB_ready hL.1) (by kernel_rfl) (by kernel_rfl) (fun _ _ _ h => h) hS0 (.inl ⟨by rfl, by intro w hSw; (try dsimp only at hSw); go_simp⟩) ?_
        simp only [Act.put]
        refine HeadW.take 5 (v := .agg #[.int .i64 y.kind, .int .i64 y.n, .slice y.p.A y.p.ys.length y.p.c]) rfl (by kernel_rfl) (by kernel_rfl) (by kernel_rfl) (by decide) (by decide) (fun _ _ _ hL => seqB_ready hL.1) (by kernel_rfl) (by kernel_rfl) (fun _ _ _ h => h) hS0 (.inl ⟨by rfl, by intro w hSw; (try dsimp only at hSw); go_simp⟩) ?_
        simp only [Act.put]
        refine HeadW.one 6 rfl (by decide) (by kernel_rfl) fun K hK => ?_
        go_simp
        obtain ⟨wb, hwb⟩ : ∃ wb, wb = (w6.alloc (.cells #[.int .i64 y.kind, .int .i64 y.n, .slice y.p.A y.p.ys.length y.p.c] 30)).drew := ⟨_, rfl⟩
        have hOb : Below w6.heap.size w6 wb := by rw [hwb]; exact below_drewN ((Below.refl _ _).alloc (Nat.le_refl _) _) 1
        have hRb : RV wb (some ⟨w6.heap.size, 0, none⟩) (itemCells y) := by rw [hwb]; exact (RV.of_blk (Blk.new w6 _ #[_, _, _])).drew
        have hfb : wb.frozen? ⟨gs, 1, none⟩ = false := by rw [hwb]; exact hfa _
        have hzb : wb.heap.size = w6.heap.size + 1 := by rw [hwb]; simp
        have hSb := HS6.out.below hOb
        have hrdb := Hrd6.out.below hOb
        rw [← hwb]
        refine hK.out _ _ ⟨hSb.blk.cell 1, hfb, by rw [(bcell hOb).1 _ _ hgi6]; exact c0, by rw [(bcell hOb).1 _ _ hgi6]; exact c1, by rw [(bcell hOb).1 _ _ hgi6]; exact c2⟩ (fun hHeld => ?_)
        clear hK K hfa hS0 hwb s1 f1
        refine HeadW.one 7 rfl (by decide) (by kernel_rfl) fun K hK => ?_
        refine step_app (by rfl) (.tmp 74) (.tmp 76) eItem (by rfl) (base := w.heap.size) (n := k) (c := cT) (A := AT) (vs := told.flatMap itemCells) (by rfl) hSb.rowT (A' := some ⟨w6.heap.size, 0, none⟩) (m := 1) (c' := 1) (us := itemCells y) (by rfl) hRb rfl (items_one [y]) (by unfold maxLen; omega) (by omega) (by omega) (by simp) ?_
        intro A2 c2' w7 hown7 hgrow7 hat7
        have ho7 : Only (fun b => AT.map (·.block) = some b) wb w7 := Only.of_grown hgrow7 fun b e => e
        have hblk7 := hSb.blk.only ho7 (hSb.rowT.ne_map hSb.blk (by decide))
        have hleft7 := hSb.left.only ho7 (hSb.rowT.ne_map2 hSb.left (by decide))
        have hown7b : ∀ z ∈ told, Held w7 w.heap.size z.p := fun z hz => (hSb.own z hz).only ho7 (hSb.rowT.ne_held (hSb.own z hz) (by decide))
        have hyo7 : Held w7 w.heap.size y.p := (Hyo.out.below hOb).only ho7 (hSb.rowT.ne_held (Hyo.out.below hOb) (by decide))
        have hrd7 := hrdb.only ho7 (hSb.rowT.ne_map hrdb.blk (by decide)) fun b o e h => by have := (HA.out b o e).2; have := (HATlt.out b h).1; omega
        have hOw7 : Only (fun b => b = g ∨ b = gs) w w7 := (HO6.out.trans (Only.of_fresh hOb)).more ho7 fun b hb h => by have := (HATlt.out b h).1; omega
        have hgi7 : w7.cell? ⟨wr.heap.size, 0, none⟩ = some (.int .i64 y.kind) ∧ w7.cell? ⟨wr.heap.size, 1, none⟩ = some (.int .i64 y.n) ∧ w7.cell? ⟨wr.heap.size, 2, none⟩ = some (.slice y.p.A y.p.ys.length y.p.c) := by
          have hni : ¬ (AT.map (·.block) = some wr.heap.size) := fun h => by have := (HATlt.out _ h).2; omega
          refine ⟨?_, ?_, ?_⟩ <;> rw [(ocell ho7).1 _ _ (by omega) hni, (bcell hOb).1 _ _ hgi6] <;> assumption
        refine hK.out _ _ ⟨hblk7.cell 1, hblk7.frozen 1, hgi7⟩ (fun hHeld => ?_)
        refine fun _ => ⟨by kernel_rfl, ?_⟩
        have f71 := hblk7.frozen 1
        have c71 : w7.cell? ⟨gs, 1, none⟩ = some (.slice AT k cT) := hblk7.cell 1
        have hgs7 := hblk7.lt
        have Hblk7 := Lib.hid hblk7
        have Hown7 := Lib.hid hown7
        have Hleft7 := Lib.hid hleft7
        have Hown7b := Lib.hid hown7b
        have Hyo7 := Lib.hid hyo7
        have Hrd7 := Lib.hid hrd7
        have HOw7 := Lib.hid hOw7
        clear hK K hHeld hblk7 hown7 hleft7 hown7b hyo7 hrd7 hOw7 hgi7 hgrow7 hat7 ho7 hSb hrdb hOb hRb hfb hzb c0 c1 c2 Hba
        go_wp2_with fail
        obtain ⟨w8, hw8⟩ : ∃ w8, w8 = w7.setCell ⟨gs, 1, none⟩ (.slice A2 (k + 1) c2') := ⟨_, rfl⟩
        rw [← hw8]
        have ho8 : Only (fun b => b = gs) w7 w8 := by rw [hw8]; exact (Only.refl (fun b => b = gs) w7).setCell (p := ⟨gs, 1, none⟩) (.inl rfl) _
        have hblk8 : Blk w8 gs 83 #[.slice (some ⟨pb, poff, none⟩) all.length cW, .slice A2 (k + 1) c2', .slice AL k cL, .pointer (some ⟨g, 0, none⟩)] := by
          rw [hw8]; exact Blk.setL (cs := [.slice (some ⟨pb, poff, none⟩) all.length cW, .slice AT k cT, .slice AL k cL, .pointer (some ⟨g, 0, none⟩)]) Hblk7.out 1 _
        clear hw8
        have hown8 := Hown7.out.only ho8 fun b o e h => Hown7.out.ne_blk Hblk7.out (by decide) b o e h
        have hleft8 := Hleft7.out.only ho8 fun b o e h => Hleft7.out.ne_blk Hblk7.out (by decide) b o e h
        have hown8b : ∀ z ∈ told, Held w8 w.heap.size z.p := fun z hz => (Hown7b.out z hz).only ho8 fun b o e h => (Hown7b.out z hz).ne_blk Hblk7.out (by decide) b o e h
        have hyo8 := Hyo7.out.only ho8 fun b o e h => Hyo7.out.ne_blk Hblk7.out (by decide) b o e h
        have hrd8 := Hrd7.out.only ho8 (fun h => hgs h.symm) fun b o e h => (HA.out b o e).1 h
        have hOw8 : Only (fun b => b = g ∨ b = gs) w w8 := HOw7.out.trans (ho8.mono fun _ _ e => .inr e)
        have s2 : w8.cell? ⟨gs, 2, none⟩ = some (.slice AL k cL) := hblk8.cell 2
        have f2 := hblk8.frozen 2
        have hgs8 := hblk8.lt
        have hb8 : w.heap.size ≤ w8.heap.size := hOw8.size
        have hS0 : (fun w' : World => w'.cell? ⟨gs, 2, none⟩ = some (.slice AL k cL) ∧ w'.frozen? ⟨gs, 2, none⟩ = false) w8.drew := ⟨s2, f2⟩
        refine region_heldT 9 (fun w' => w'.cell? ⟨gs, 2, none⟩ = some (.slice AL k cL) ∧ w'.frozen? ⟨gs, 2, none⟩ = false) (by kernel_rfl) (by decide) ?_
        refine HeadW.take 0 (v := .pointer (some ⟨gs, 0, none⟩)) rfl (by kernel_rfl) (by kernel_rfl) (by kernel_rfl) (by decide) (by decide) (fun _ _ _ hL => seqB_ready hL.1) (by kernel_rfl) (by kernel_rfl) (fun _ _ _ h => h) hS0 (.inl ⟨by rfl, by intro w hSw; (try dsimp only at hSw); go_simp⟩) ?_
        simp only [Act.put, List.setIfInBounds_toArray]
        refine HeadW.take 1 (v := .pointer (some ⟨gs, 0, none⟩)) rfl (by kernel_rfl) (by kernel_rfl) (by kernel_rfl) (by decide) (by decide) (fun _ _ _ hL => seqB_ready hL.1) (by kernel_rfl) (by kernel_rfl) (fun _ _ _ h => h) hS0 (.inl ⟨by rfl, by intro w hSw; (try dsimp only at hSw); go_simp⟩) ?_
        simp only [Act.put]
        refine HeadW.take 2 (v := .pointer (some ⟨gs, 0, none⟩)) rfl (by kernel_rfl) (by kernel_rfl) (by kernel_rfl) (by decide) (by decide) (fun _ _ _ hL => seqB_ready hL.1) (by kernel_rfl) (by kernel_rfl) (fun _ _ _ h => h) hS0 (.inl ⟨by rfl, by intro w hSw; (try dsimp only at hSw); go_simp⟩) ?_
        simp only [Act.put]
        refine HeadW.take 3 (v := .pointer (some ⟨gs, 2, none⟩)) rfl (by kernel_rfl) (by kernel_rfl) (by kernel_rfl) (by decide) (by decide) (fun _ _ _ hL => seqB_ready hL.1) (by kernel_rfl) (by kernel_rfl) (fun _ _ _ h => h) hS0 (.inl ⟨by rfl, by intro w hSw; (try dsimp only at hSw); go_simp⟩) ?_
        simp only [Act.put]
        refine HeadW.take 4 (v := .slice AL k cL) rfl (by kernel_rfl) (by kernel_rfl) (by kernel_rfl) (by decide) (by decide) (fun _ _ _ hL => seqB_ready hL.1) (by kernel_rfl) (by kernel_rfl) (fun _ _ _ h => h) hS0 (.inl ⟨by rfl, by intro w hSw; (try dsimp only at hSw); go_simp⟩) ?_
        simp only [Act.put]
        refine HeadW.take 5 (v := .pointer (some ⟨g, 0, none⟩)) rfl (by kernel_rfl) (by kernel_rfl) (by kernel_rfl) (by decide) (by decide) (fun _ _ _ hL => seqB_ready hL.1) (by kernel_rfl) (by kernel_rfl) (fun _ _ _ h => h) hS0 (.inl ⟨by rfl, by intro w hSw; (try dsimp only at hSw); go_simp⟩) ?_
        simp only [Act.put]
        refine HeadW.one 6 rfl (by decide) (by kernel_rfl) fun K hK => ?_
        go_simp
        refine (rLeft_any g c _ A bs w8.drew (hrd8.drewN 1) hl).mono ?_
        rintro e _ ⟨rfl, m, rfl⟩
        have hzl : (formsL (all.take (k + 1))).length ≤ bs.length := hrd8.le
        obtain ⟨lv, hlv⟩ : ∃ lv : Nat, lv = bs.length - (formsL (all.take (k + 1))).length := ⟨_, rfl⟩
        rw [← hlv]
        obtain ⟨w9, hw9⟩ : ∃ w9, w9 = w8.drew.drewN m := ⟨_, rfl⟩
        have hO9 : Below w8.heap.size w8 w9 := by rw [hw9]; exact below_drewN (below_drewN (Below.refl _ _) 1) m
        have hz9 : w9.heap.size = w8.heap.size := by rw [hw9]; rfl
        have hS9 : w9.cell? ⟨gs, 2, none⟩ = some (.slice AL k cL) ∧ w9.frozen? ⟨gs, 2, none⟩ = false := by rw [hw9]; exact ⟨s2, f2⟩
        rw [← hw9]
        have Hlv := Lib.hid hlv
        clear hw9 hlv
        refine hK.out _ _ hS9 (fun hHeld => ?_)
        clear hK K hHeld hS0
        refine HeadW.one 7 rfl (by decide) (by kernel_rfl) fun K hK => ?_
        go_simp
        obtain ⟨wc, hwc⟩ : ∃ wc, wc = w9.alloc (.cells #[.int .i64 (lv : Int)] 3) := ⟨_, rfl⟩
        have hOc : Below w9.heap.size w9 wc := by rw [hwc]; exact (Below.refl _ _).alloc (Nat.le_refl _) _
        have hRc : RV wc (some ⟨w9.heap.size, 0, none⟩) [.int .i64 (lv : Int)] := by rw [hwc]; exact RV.of_blk (Blk.new w9 _ #[_])
        have hzc : wc.heap.size = w9.heap.size + 1 := by rw [hwc]; simp
        rw [hz9] at hRc
        have hOc8 : Below w8.heap.size w8 wc := hO9.trans (hOc.mono (by omega))
        have hblkc := hblk8.below hOc8 hgs8
        have hleftc := hleft8.below hOc8 (Nat.le_refl _)
        have hownc := hown8.below hOc8 (Nat.le_refl _)
        have hrdc := hrd8.below hOc8
        rw [← hwc]
        clear hwc
        refine hK.out _ _ ⟨hblkc.cell 2, hblkc.frozen 2⟩ (fun hHeld => ?_)
        clear hK K hHeld
        refine HeadW.one 8 rfl (by decide) (by kernel_rfl) fun K hK => ?_
        refine step_app (by rfl) (.tmp 84) (.tmp 87) eInt (by rfl) (base := w.heap.size) (n := k) (c := cL) (A := AL) (vs := leftV all k) (by rfl) hleftc (A' := some ⟨w8.heap.size, 0, none⟩) (m := 1) (c' := 1) (us := [.int .i64 (lv : Int)]) (by rfl) hRc rfl (fun v hv => by rcases List.mem_singleton.1 hv with rfl; rfl) (by unfold maxLen; omega) (by omega) (by omega) (by simp) ?_
        intro AL2 cL2 w10 hown10 hgrow10 hat10
        have ho10 : Only (fun b => AL.map (·.block) = some b) wc w10 := Only.of_grown hgrow10 fun b e => e
        have hALlt : ∀ b, AL.map (·.block) = some b → w.heap.size ≤ b := fun b h => (Own.row hleft8 b h).1
        have hblk10 := hblkc.only ho10 (hleftc.ne_map hblkc (by decide))
        have hrow10 := hownc.only ho10 (hleftc.ne_map2 hownc (by decide))
        have hown10b : ∀ z ∈ told, Held w10 w.heap.size z.p := fun z hz => ((hown8b z hz).below hOc8).only ho10 (hleftc.ne_held ((hown8b z hz).below hOc8) (by decide))
        have hyo10 : Held w10 w.heap.size y.p := (hyo8.below hOc8).only ho10 (hleftc.ne_held (hyo8.below hOc8) (by decide))
        have hrd10 := hrdc.only ho10 (hleftc.ne_map hrdc.blk (by decide)) fun b o e h => by have := (HA.out b o e).2; have := hALlt b h; omega
        have hOw10 : Only (fun b => b = g ∨ b = gs) w w10 := (hOw8.trans (Only.of_fresh hOc8)).more ho10 fun b hb h => by have := hALlt b h; omega
        refine hK.out _ _ ⟨hblk10.cell 2, hblk10.frozen 2⟩ (fun hHeld => ?_)
        refine fun _ => ⟨by kernel_rfl, ?_⟩
        have f102 := hblk10.frozen 2
        have c102 : w10.cell? ⟨gs, 2, none⟩ = some (.slice AL k cL) := hblk10.cell 2
        have hgs10 := hblk10.lt
        have Hblk10 := Lib.hid hblk10
        have Hown10 := Lib.hid hown10
        have Hrow10 := Lib.hid hrow10
        have Hown10b := Lib.hid hown10b
        have Hyo10 := Lib.hid hyo10
        have Hrd10 := Lib.hid hrd10
        have HOw10 := Lib.hid hOw10
        clear hK K hHeld hblk10 hown10 hrow10 hown10b hyo10 hrd10 hOw10 hgrow10 hat10 ho10 hblkc hleftc hownc hrdc hOc hOc8 hRc hO9 hS9 hblk8 hown8 hleft8 hown8b hyo8 hrd8 hOw8 ho8 s2 f2
        go_wp2_with fail
        refine ⟨⟨k + 1, A2, c2', AL2, cL2, told ++ [y], by omega, by go_num, ⟨?_, ?_, ?_, ?_, ?_, ?_⟩, ?_, ?_⟩, by simp [intOf]; omega⟩
        · exact Blk.setL (cs := [.slice (some ⟨pb, poff, none⟩) all.length cW, .slice A2 (k + 1) c2', .slice AL k cL, .pointer (some ⟨g, 0, none⟩)]) Hblk10.out 2 _
        · have h := Hrow10.out.only (S := fun b => b = gs) (w' := w10.setCell ⟨gs, 2, none⟩ (.slice AL2 (k + 1) cL2)) ((Only.refl (fun b => b = gs) w10).setCell (p := ⟨gs, 2, none⟩) (.inl rfl) _) fun b o e h => Hrow10.out.ne_blk Hblk10.out (by decide) b o e h
          rw [List.flatMap_append]
          simpa using h
        · have h := Hown10.out.only (S := fun b => b = gs) (w' := w10.setCell ⟨gs, 2, none⟩ (.slice AL2 (k + 1) cL2)) ((Only.refl (fun b => b = gs) w10).setCell (p := ⟨gs, 2, none⟩) (.inl rfl) _) fun b o e h => Hown10.out.ne_blk Hblk10.out (by decide) b o e h
          have e : leftV all (k + 1) = leftV all k ++ [.int .i64 (lv : Int)] := by
            unfold leftV
            rw [List.range_succ, List.map_append, Hlv.out, Hbs.out]
            rfl
          rw [e]
          exact h
        · rw [List.length_append, HS6.out.len]; rfl
        · intro j hj h2
          rcases Nat.lt_or_ge j k with h | h
          · obtain ⟨z, hz, hz2⟩ := HS6.out.mat j h h2
            exact ⟨z, by rw [List.getElem?_append_left (by rw [HS6.out.len]; exact h)]; exact hz, hz2⟩
          · obtain rfl : j = k := by omega
            exact ⟨y, by rw [List.getElem?_append_right (by rw [HS6.out.len]; exact h), HS6.out.len, Nat.sub_self]; rfl, by rw [← Hxe.out]; exact Has.out⟩
        · intro z hz
          have hz2 : Held w10 w.heap.size z.p := by
            rcases List.mem_append.1 hz with h | h
            · exact Hown10b.out z h
            · rcases List.mem_singleton.1 h with rfl
              exact Hyo10.out
          exact hz2.only ((Only.refl (fun b => b = gs) w10).setCell (p := ⟨gs, 2, none⟩) (.inl rfl) _) fun b o e h => hz2.ne_blk Hblk10.out (by decide) b o e h
        · exact Hrd10.out.only ((Only.refl (fun b => b = gs) w10).setCell (p := ⟨gs, 2, none⟩) (.inl rfl) _) (fun h => hgs h.symm) fun b o e h => (HA.out b o e).1 h
        · exact HOw10.out.setCell (p := ⟨gs, 2, none⟩) (.inl (.inr rfl)) _
      by_cases h5 : x.kind = 5
      · clear h1 h2 h3 h4
        have q1 : (x.kind == 1) = false := by rw [beq_eq_false_iff_ne]; omega
        have q2 : (x.kind == 2) = false := by rw [beq_eq_false_iff_ne]; omega
        have q3 : (x.kind == 3) = false := by rw [beq_eq_false_iff_ne]; omega
        have q4 : (x.kind == 4) = false := by rw [beq_eq_false_iff_ne]; omega
        have g2 : (x.kind == 5) = true := by rw [beq_iff_eq]; exact h5
        have hform : itemL x = formL x.p.ys.length ++ x.p.ys := by unfold itemL; rw [if_neg (by omega), if_neg (by omega), if_neg (by omega), if_neg (by omega)]
        have hpar := rBytes_form (formsL (all.take k)) x.p.ys (formsL (all.drop (k + 1))) (by have := Hx.out.len; omega)
        rw [← hform, ← Hsp.out] at hpar
        have hc := rText_any g c _ A bs wa Hrda.out hl
        rw [hpar] at hc
        have Hkd := Lib.hid h5
        clear hform hpar h5
        go_wp2_with fail
        rw [← Hwa.out]
        refine hc.mono ?_
        rintro e w4 ⟨rfl, hrd4, ho4⟩
        have hB4 := HBa.out.only ho4 (by omega)
        have hz4 := ho4.size
        go_wp2_with (refine wpList_at 54 rfl ?_; refine wp_stop ?_)
        refine ⟨?_⟩
        refine wpList_strBytes2 rfl (.tmp 53) ⟨x.p.ys.toArray⟩ rfl rfl Try.underlying9 Try.underlying22 Try.underlying5 ?_
        intro c5 w5 hrv5 hb5 hz5 hcs5
        have ho5 : Only (fun b => b = g) wa w5 := ho4.trans (Only.of_fresh hb5)
        have hrd5 := hrd4.below hb5
        have hheld5 : Held w5 w.heap.size ⟨some ⟨w4.heap.size, 0, none⟩, c5, x.p.ys⟩ := ⟨hrv5, fun b o e => by
          cases e
          exact ⟨by have := HO.out.size; omega, by omega, hcs5⟩, fun h => by cases h⟩
        have Hheld5 := Lib.hid hheld5
        clear hrd4 ho4 hB4 hrv5 hb5 hcs5 hheld5
        have hB5 := HBa.out.only ho5 (by omega)
        have hf5 := hB5.frozen 2
        have hc51 : w5.cell? ⟨wr.heap.size, 2, none⟩ = some (.slice none 0 0) := hB5.cell 2
        have hgi := hB5.lt
        have Hrd5 := Lib.hid hrd5
        have Ho5 := Lib.hid ho5
        have HB5 := Lib.hid hB5
        clear hc hrd5 ho5 hB5
        go_wp2_with fail
        obtain ⟨y, hy⟩ : ∃ y : Item, y = ⟨x.kind, 0, ⟨some ⟨w4.heap.size, 0, none⟩, c5, x.p.ys⟩⟩ := ⟨_, rfl⟩
        obtain ⟨w6, hw6⟩ : ∃ w6, w6 = w5.setCell ⟨wr.heap.size, 2, none⟩ (.slice (some ⟨w4.heap.size, 0, none⟩) x.p.ys.length c5) := ⟨_, rfl⟩
        have hB6 : Blk w6 wr.heap.size 30 (itemCells y).toArray := by rw [hw6, hy]; exact Blk.setL (cs := [.int .i64 x.kind, .int .i64 0, .slice none 0 0]) HB5.out 2 _
        have ho6 : Only (fun b => b = g) wr w6 := by rw [hw6]; exact (((Only.of_fresh Hba.out).trans Ho5.out).setCell (p := ⟨wr.heap.size, 2, none⟩) (.inr (Nat.le_refl _)) _)
        have hrd6 : Rd w6 g A c bs (formsL (all.take (k + 1))).length false 0 := by
          rw [hw6, Hnx.out]
          exact Hrd5.out.only ((Only.refl (fun b => b = wr.heap.size) w5).setCell (p := ⟨wr.heap.size, 2, none⟩) (.inl rfl) _) (by omega) fun b o e => by have := (HA.out b o e).2; have := HO.out.size; omega
        have has : As y x := by
          rw [hy]
          exact ⟨rfl, fun h => absurd h (by have := Hkd.out; omega), fun _ => rfl, fun h => absurd h (show ¬ x.kind ≤ 3 by have := Hkd.out; omega)⟩
        have hyo : Held w6 w.heap.size y.p := by rw [hy, hw6]; exact Hheld5.out.only ((Only.refl (fun b => b = wr.heap.size) w5).setCell (p := ⟨wr.heap.size, 2, none⟩) (.inl rfl) _) fun b o e h => Hheld5.out.ne_blk HB5.out (by decide) b o e h
        have hS6 := HS.out.step Hrd2.out.blk ho6 hgs
        have c0 : w6.cell? ⟨wr.heap.size, 0, none⟩ = some (.int .i64 y.kind) := hB6.cell 0
        have c1 : w6.cell? ⟨wr.heap.size, 1, none⟩ = some (.int .i64 y.n) := hB6.cell 1
        have c2 : w6.cell? ⟨wr.heap.size, 2, none⟩ = some (.slice y.p.A y.p.ys.length y.p.c) := hB6.cell 2
        rw [← hw6]
        have hgi6 := hB6.lt
        have HB6 := Lib.hid hB6
        have HO6 := Lib.hid (HO.out.trans (ho6.mono fun _ _ e => .inl e))
        have Hrd6 := Lib.hid hrd6
        have Has := Lib.hid has
        have Hyo := Lib.hid hyo
        have HS6 := Lib.hid hS6
        clear hw6 hB6 ho6 hrd6 has hyo hS6 HB5 Ho5 Hrd5 hf5 hc51 hy HBa Hrda Hwa HS Hrd2 HO s0 ck cp hgi
        have s1 : w6.cell? ⟨gs, 1, none⟩ = some (.slice AT k cT) := HS6.out.blk.cell 1
        have f1 := HS6.out.blk.frozen 1
        have hgs6 := HS6.out.blk.lt
        have hb6 : w.heap.size ≤ w6.heap.size := HO6.out.size
        have hfa : ∀ o, ((w6.alloc o).drew).frozen? ⟨gs, 1, none⟩ = false := fun o => by rw [(ocell (((Only.refl (fun _ => False) w6).alloc o).drew)).2 gs 1 hgs6 (fun h => h)]; exact f1
        refine region_heldT 8 (fun w' => w'.cell? ⟨gs, 1, none⟩ = some (.slice AT k cT) ∧ w'.frozen? ⟨gs, 1, none⟩ = false ∧ w'.cell? ⟨wr.heap.size, 0, none⟩ = some (.int .i64 y.kind) ∧ w'.cell? ⟨wr.heap.size, 1, none⟩ = some (.int .i64 y.n) ∧ w'.cell? ⟨wr.heap.size, 2, none⟩ = some (.slice y.p.A y.p.ys.length y.p.c)) (by kernel_rfl) (by decide) ?_
        have hS0 : (fun w' : World => w'.cell? ⟨gs, 1, none⟩ = some (.slice AT k cT) ∧ w'.frozen? ⟨gs, 1, none⟩ = false ∧ w'.cell? ⟨wr.heap.size, 0, none⟩ = some (.int .i64 y.kind) ∧ w'.cell? ⟨wr.heap.size, 1, none⟩ = some (.int .i64 y.n) ∧ w'.cell? ⟨wr.heap.size, 2, none⟩ = some (.slice y.p.A y.p.ys.length y.p.c)) w6.drew := ⟨s1, f1, c0, c1, c2⟩
        refine HeadW.take 0 (v := .pointer (some ⟨gs, 0, none⟩)) rfl (by kernel_rfl) (by kernel_rfl) (by kernel_rfl) (by decide) (by decide) (fun _ _ _ hL => seqB_ready hL.1) (by kernel_rfl) (by kernel_rfl) (fun _ _ _ h => h) hS0 (.inl ⟨by rfl, by intro w hSw; (try dsimp only at hSw); go_simp⟩) ?_
        simp only [Act.put, List.setIfInBounds_toArray]
        refine HeadW.take 1 (v := .pointer (some ⟨gs, 0, none⟩)) rfl (by kernel_rfl) (by kernel_rfl) (by kernel_rfl) (by decide) (by decide) (fun _ _ _ hL => seqB_ready hL.1) (by kernel_rfl) (by kernel_rfl) (fun _ _ _ h => h) hS0 (.inl ⟨by rfl, by intro w hSw; (try dsimp only at hSw); go_simp⟩) ?_
        simp only [Act.put]
        refine HeadW.take 2 (v := .pointer (some ⟨gs, 0, none⟩)) rfl (by kernel_rfl) (by kernel_rfl) (by kernel_rfl) (by decide) (by decide) (fun _ _ _ hL => seqB_ready hL.1) (by kernel_rfl) (by kernel_rfl) (fun _ _ _ h => h) hS0 (.inl ⟨by rfl, by intro w hSw; (try dsimp only at hSw); go_simp⟩) ?_
        simp only [Act.put]
        refine HeadW.take 3 (v := .pointer (some ⟨gs, 1, none⟩)) rfl (by kernel_rfl) (by kernel_rfl) (by kernel_rfl) (by decide) (by decide) (fun _ _ _ hL => seqB_ready hL.1) (by kernel_rfl) (by kernel_rfl) (fun _ _ _ h => h) hS0 (.inl ⟨by rfl, by intro w hSw; (try dsimp only at hSw); go_simp⟩) ?_
        simp only [Act.put]
        refine HeadW.take 4 (v := .slice AT k cT) rfl (by kernel_rfl) (by kernel_rfl) (by kernel_rfl) (by decide) (by decide) (fun _ _ _ hL => seqB_ready hL.1) (by kernel_rfl) (by kernel_rfl) (fun _ _ _ h => h) hS0 (.inl ⟨by rfl, by intro w hSw; (try dsimp only at hSw); go_simp⟩) ?_
        simp only [Act.put]
        refine HeadW.take 5 (v := .agg #[.int .i64 y.kind, .int .i64 y.n, .slice y.p.A y.p.ys.length y.p.c]) rfl (by kernel_rfl) (by kernel_rfl) (by kernel_rfl) (by decide) (by decide) (fun _ _ _ hL => seqB_ready hL.1) (by kernel_rfl) (by kernel_rfl) (fun _ _ _ h => h) hS0 (.inl ⟨by rfl, by intro w hSw; (try dsimp only at hSw); go_simp⟩) ?_
        simp only [Act.put]
        refine HeadW.one 6 rfl (by decide) (by kernel_rfl) fun K hK => ?_
        go_simp
        obtain ⟨wb, hwb⟩ : ∃ wb, wb = (w6.alloc (.cells #[.int .i64 y.kind, .int .i64 y.n, .slice y.p.A y.p.ys.length y.p.c] 30)).drew := ⟨_, rfl⟩
        have hOb : Below w6.heap.size w6 wb := by rw [hwb]; exact below_drewN ((Below.refl _ _).alloc (Nat.le_refl _) _) 1
        have hRb : RV wb (some ⟨w6.heap.size, 0, none⟩) (itemCells y) := by rw [hwb]; exact (RV.of_blk (Blk.new w6 _ #[_, _, _])).drew
        have hfb : wb.frozen? ⟨gs, 1, none⟩ = false := by rw [hwb]; exact hfa _
        have hzb : wb.heap.size = w6.heap.size + 1 := by rw [hwb]; simp
        have hSb := HS6.out.below hOb
        have hrdb := Hrd6.out.below hOb
        rw [← hwb]
        refine hK.out _ _ ⟨hSb.blk.cell 1, hfb, by rw [(bcell hOb).1 _ _ hgi6]; exact c0, by rw [(bcell hOb).1 _ _ hgi6]; exact c1, by rw [(bcell hOb).1 _ _ hgi6]; exact c2⟩ (fun hHeld => ?_)
        clear hK K hfa hS0 hwb s1 f1
        refine HeadW.one 7 rfl (by decide) (by kernel_rfl) fun K hK => ?_
        refine step_app (by rfl) (.tmp 74) (.tmp 76) eItem (by rfl) (base := w.heap.size) (n := k) (c := cT) (A := AT) (vs := told.flatMap itemCells) (by rfl) hSb.rowT (A' := some ⟨w6.heap.size, 0, none⟩) (m := 1) (c' := 1) (us := itemCells y) (by rfl) hRb rfl (items_one [y]) (by unfold maxLen; omega) (by omega) (by omega) (by simp) ?_
        intro A2 c2' w7 hown7 hgrow7 hat7
        have ho7 : Only (fun b => AT.map (·.block) = some b) wb w7 := Only.of_grown hgrow7 fun b e => e
        have hblk7 := hSb.blk.only ho7 (hSb.rowT.ne_map hSb.blk (by decide))
        have hleft7 := hSb.left.only ho7 (hSb.rowT.ne_map2 hSb.left (by decide))
        have hown7b : ∀ z ∈ told, Held w7 w.heap.size z.p := fun z hz => (hSb.own z hz).only ho7 (hSb.rowT.ne_held (hSb.own z hz) (by decide))
        have hyo7 : Held w7 w.heap.size y.p := (Hyo.out.below hOb).only ho7 (hSb.rowT.ne_held (Hyo.out.below hOb) (by decide))
        have hrd7 := hrdb.only ho7 (hSb.rowT.ne_map hrdb.blk (by decide)) fun b o e h => by have := (HA.out b o e).2; have := (HATlt.out b h).1; omega
        have hOw7 : Only (fun b => b = g ∨ b = gs) w w7 := (HO6.out.trans (Only.of_fresh hOb)).more ho7 fun b hb h => by have := (HATlt.out b h).1; omega
        have hgi7 : w7.cell? ⟨wr.heap.size, 0, none⟩ = some (.int .i64 y.kind) ∧ w7.cell? ⟨wr.heap.size, 1, none⟩ = some (.int .i64 y.n) ∧ w7.cell? ⟨wr.heap.size, 2, none⟩ = some (.slice y.p.A y.p.ys.length y.p.c) := by
          have hni : ¬ (AT.map (·.block) = some wr.heap.size) := fun h => by have := (HATlt.out _ h).2; omega
          refine ⟨?_, ?_, ?_⟩ <;> rw [(ocell ho7).1 _ _ (by omega) hni, (bcell hOb).1 _ _ hgi6] <;> assumption
        refine hK.out _ _ ⟨hblk7.cell 1, hblk7.frozen 1, hgi7⟩ (fun hHeld => ?_)
        refine fun _ => ⟨by kernel_rfl, ?_⟩
        have f71 := hblk7.frozen 1
        have c71 : w7.cell? ⟨gs, 1, none⟩ = some (.slice AT k cT) := hblk7.cell 1
        have hgs7 := hblk7.lt
        have Hblk7 := Lib.hid hblk7
        have Hown7 := Lib.hid hown7
        have Hleft7 := Lib.hid hleft7
        have Hown7b := Lib.hid hown7b
        have Hyo7 := Lib.hid hyo7
        have Hrd7 := Lib.hid hrd7
        have HOw7 := Lib.hid hOw7
        clear hK K hHeld hblk7 hown7 hleft7 hown7b hyo7 hrd7 hOw7 hgi7 hgrow7 hat7 ho7 hSb hrdb hOb hRb hfb hzb c0 c1 c2 Hba
        go_wp2_with fail
        obtain ⟨w8, hw8⟩ : ∃ w8, w8 = w7.setCell ⟨gs, 1, none⟩ (.slice A2 (k + 1) c2') := ⟨_, rfl⟩
        rw [← hw8]
        have ho8 : Only (fun b => b = gs) w7 w8 := by rw [hw8]; exact (Only.refl (fun b => b = gs) w7).setCell (p := ⟨gs, 1, none⟩) (.inl rfl) _
        have hblk8 : Blk w8 gs 83 #[.slice (some ⟨pb, poff, none⟩) all.length cW, .slice A2 (k + 1) c2', .slice AL k cL, .pointer (some ⟨g, 0, none⟩)] := by
          rw [hw8]; exact Blk.setL (cs := [.slice (some ⟨pb, poff, none⟩) all.length cW, .slice AT k cT, .slice AL k cL, .pointer (some ⟨g, 0, none⟩)]) Hblk7.out 1 _
        clear hw8
        have hown8 := Hown7.out.only ho8 fun b o e h => Hown7.out.ne_blk Hblk7.out (by decide) b o e h
        have hleft8 := Hleft7.out.only ho8 fun b o e h => Hleft7.out.ne_blk Hblk7.out (by decide) b o e h
        have hown8b : ∀ z ∈ told, Held w8 w.heap.size z.p := fun z hz => (Hown7b.out z hz).only ho8 fun b o e h => (Hown7b.out z hz).ne_blk Hblk7.out (by decide) b o e h
        have hyo8 := Hyo7.out.only ho8 fun b o e h => Hyo7.out.ne_blk Hblk7.out (by decide) b o e h
        have hrd8 := Hrd7.out.only ho8 (fun h => hgs h.symm) fun b o e h => (HA.out b o e).1 h
        have hOw8 : Only (fun b => b = g ∨ b = gs) w w8 := HOw7.out.trans (ho8.mono fun _ _ e => .inr e)
        have s2 : w8.cell? ⟨gs, 2, none⟩ = some (.slice AL k cL) := hblk8.cell 2
        have f2 := hblk8.frozen 2
        have hgs8 := hblk8.lt
        have hb8 : w.heap.size ≤ w8.heap.size := hOw8.size
        have hS0 : (fun w' : World => w'.cell? ⟨gs, 2, none⟩ = some (.slice AL k cL) ∧ w'.frozen? ⟨gs, 2, none⟩ = false) w8.drew := ⟨s2, f2⟩
        refine region_heldT 9 (fun w' => w'.cell? ⟨gs, 2, none⟩ = some (.slice AL k cL) ∧ w'.frozen? ⟨gs, 2, none⟩ = false) (by kernel_rfl) (by decide) ?_
        refine HeadW.take 0 (v := .pointer (some ⟨gs, 0, none⟩)) rfl (by kernel_rfl) (by kernel_rfl) (by kernel_rfl) (by decide) (by decide) (fun _ _ _ hL => seqB_ready hL.1) (by kernel_rfl) (by kernel_rfl) (fun _ _ _ h => h) hS0 (.inl ⟨by rfl, by intro w hSw; (try dsimp only at hSw); go_simp⟩) ?_
        simp only [Act.put, List.setIfInBounds_toArray]
        refine HeadW.take 1 (v := .pointer (some ⟨gs, 0, none⟩)) rfl (by kernel_rfl) (by kernel_rfl) (by kernel_rfl) (by decide) (by decide) (fun _ _ _ hL => seqB_ready hL.1) (by kernel_rfl) (by kernel_rfl) (fun _ _ _ h => h) hS0 (.inl ⟨by rfl, by intro w hSw; (try dsimp only at hSw); go_simp⟩) ?_
        simp only [Act.put]
        refine HeadW.take 2 (v := .pointer (some ⟨gs, 0, none⟩)) rfl (by kernel_rfl) (by kernel_rfl) (by kernel_rfl) (by decide) (by decide) (fun _ _ _ hL => seqB_ready hL.1) (by kernel_rfl) (by kernel_rfl) (fun _ _ _ h => h) hS0 (.inl ⟨by rfl, by intro w hSw; (try dsimp only at hSw); go_simp⟩) ?_
        simp only [Act.put]
        refine HeadW.take 3 (v := .pointer (some ⟨gs, 2, none⟩)) rfl (by kernel_rfl) (by kernel_rfl) (by kernel_rfl) (by decide) (by decide) (fun _ _ _ hL => seqB_ready hL.1) (by kernel_rfl) (by kernel_rfl) (fun _ _ _ h => h) hS0 (.inl ⟨by rfl, by intro w hSw; (try dsimp only at hSw); go_simp⟩) ?_
        simp only [Act.put]
        refine HeadW.take 4 (v := .slice AL k cL) rfl (by kernel_rfl) (by kernel_rfl) (by kernel_rfl) (by decide) (by decide) (fun _ _ _ hL => seqB_ready hL.1) (by kernel_rfl) (by kernel_rfl) (fun _ _ _ h => h) hS0 (.inl ⟨by rfl, by intro w hSw; (try dsimp only at hSw); go_simp⟩) ?_
        simp only [Act.put]
        refine HeadW.take 5 (v := .pointer (some ⟨g, 0, none⟩)) rfl (by kernel_rfl) (by kernel_rfl) (by kernel_rfl) (by decide) (by decide) (fun _ _ _ hL => seqB_ready hL.1) (by kernel_rfl) (by kernel_rfl) (fun _ _ _ h => h) hS0 (.inl ⟨by rfl, by intro w hSw; (try dsimp only at hSw); go_simp⟩) ?_
        simp only [Act.put]
        refine HeadW.one 6 rfl (by decide) (by kernel_rfl) fun K hK => ?_
        go_simp
        refine (rLeft_any g c _ A bs w8.drew (hrd8.drewN 1) hl).mono ?_
        rintro e _ ⟨rfl, m, rfl⟩
        have hzl : (formsL (all.take (k + 1))).length ≤ bs.length := hrd8.le
        obtain ⟨lv, hlv⟩ : ∃ lv : Nat, lv = bs.length - (formsL (all.take (k + 1))).length := ⟨_, rfl⟩
        rw [← hlv]
        obtain ⟨w9, hw9⟩ : ∃ w9, w9 = w8.drew.drewN m := ⟨_, rfl⟩
        have hO9 : Below w8.heap.size w8 w9 := by rw [hw9]; exact below_drewN (below_drewN (Below.refl _ _) 1) m
        have hz9 : w9.heap.size = w8.heap.size := by rw [hw9]; rfl
        have hS9 : w9.cell? ⟨gs, 2, none⟩ = some (.slice AL k cL) ∧ w9.frozen? ⟨gs, 2, none⟩ = false := by rw [hw9]; exact ⟨s2, f2⟩
        rw [← hw9]
        have Hlv := Lib.hid hlv
        clear hw9 hlv
        refine hK.out _ _ hS9 (fun hHeld => ?_)
        clear hK K hHeld hS0
        refine HeadW.one 7 rfl (by decide) (by kernel_rfl) fun K hK => ?_
        go_simp
        obtain ⟨wc, hwc⟩ : ∃ wc, wc = w9.alloc (.cells #[.int .i64 (lv : Int)] 3) := ⟨_, rfl⟩
        have hOc : Below w9.heap.size w9 wc := by rw [hwc]; exact (Below.refl _ _).alloc (Nat.le_refl _) _
        have hRc : RV wc (some ⟨w9.heap.size, 0, none⟩) [.int .i64 (lv : Int)] := by rw [hwc]; exact RV.of_blk (Blk.new w9 _ #[_])
        have hzc : wc.heap.size = w9.heap.size + 1 := by rw [hwc]; simp
        rw [hz9] at hRc
        have hOc8 : Below w8.heap.size w8 wc := hO9.trans (hOc.mono (by omega))
        have hblkc := hblk8.below hOc8 hgs8
        have hleftc := hleft8.below hOc8 (Nat.le_refl _)
        have hownc := hown8.below hOc8 (Nat.le_refl _)
        have hrdc := hrd8.below hOc8
        rw [← hwc]
        clear hwc
        refine hK.out _ _ ⟨hblkc.cell 2, hblkc.frozen 2⟩ (fun hHeld => ?_)
        clear hK K hHeld
        refine HeadW.one 8 rfl (by decide) (by kernel_rfl) fun K hK => ?_
        refine step_app (by rfl) (.tmp 84) (.tmp 87) eInt (by rfl) (base := w.heap.size) (n := k) (c := cL) (A := AL) (vs := leftV all k) (by rfl) hleftc (A' := some ⟨w8.heap.size, 0, none⟩) (m := 1) (c' := 1) (us := [.int .i64 (lv : Int)]) (by rfl) hRc rfl (fun v hv => by rcases List.mem_singleton.1 hv with rfl; rfl) (by unfold maxLen; omega) (by omega) (by omega) (by simp) ?_
        intro AL2 cL2 w10 hown10 hgrow10 hat10
        have ho10 : Only (fun b => AL.map (·.block) = some b) wc w10 := Only.of_grown hgrow10 fun b e => e
        have hALlt : ∀ b, AL.map (·.block) = some b → w.heap.size ≤ b := fun b h => (Own.row hleft8 b h).1
        have hblk10 := hblkc.only ho10 (hleftc.ne_map hblkc (by decide))
        have hrow10 := hownc.only ho10 (hleftc.ne_map2 hownc (by decide))
        have hown10b : ∀ z ∈ told, Held w10 w.heap.size z.p := fun z hz => ((hown8b z hz).below hOc8).only ho10 (hleftc.ne_held ((hown8b z hz).below hOc8) (by decide))
        have hyo10 : Held w10 w.heap.size y.p := (hyo8.below hOc8).only ho10 (hleftc.ne_held (hyo8.below hOc8) (by decide))
        have hrd10 := hrdc.only ho10 (hleftc.ne_map hrdc.blk (by decide)) fun b o e h => by have := (HA.out b o e).2; have := hALlt b h; omega
        have hOw10 : Only (fun b => b = g ∨ b = gs) w w10 := (hOw8.trans (Only.of_fresh hOc8)).more ho10 fun b hb h => by have := hALlt b h; omega
        refine hK.out _ _ ⟨hblk10.cell 2, hblk10.frozen 2⟩ (fun hHeld => ?_)
        refine fun _ => ⟨by kernel_rfl, ?_⟩
        have f102 := hblk10.frozen 2
        have c102 : w10.cell? ⟨gs, 2, none⟩ = some (.slice AL k cL) := hblk10.cell 2
        have hgs10 := hblk10.lt
        have Hblk10 := Lib.hid hblk10
        have Hown10 := Lib.hid hown10
        have Hrow10 := Lib.hid hrow10
        have Hown10b := Lib.hid hown10b
        have Hyo10 := Lib.hid hyo10
        have Hrd10 := Lib.hid hrd10
        have HOw10 := Lib.hid hOw10
        clear hK K hHeld hblk10 hown10 hrow10 hown10b hyo10 hrd10 hOw10 hgrow10 hat10 ho10 hblkc hleftc hownc hrdc hOc hOc8 hRc hO9 hS9 hblk8 hown8 hleft8 hown8b hyo8 hrd8 hOw8 ho8 s2 f2
        go_wp2_with fail
        refine ⟨⟨k + 1, A2, c2', AL2, cL2, told ++ [y], by omega, by go_num, ⟨?_, ?_, ?_, ?_, ?_, ?_⟩, ?_, ?_⟩, by simp [intOf]; omega⟩
        · exact Blk.setL (cs := [.slice (some ⟨pb, poff, none⟩) all.length cW, .slice A2 (k + 1) c2', .slice AL k cL, .pointer (some ⟨g, 0, none⟩)]) Hblk10.out 2 _
        · have h := Hrow10.out.only (S := fun b => b = gs) (w' := w10.setCell ⟨gs, 2, none⟩ (.slice AL2 (k + 1) cL2)) ((Only.refl (fun b => b = gs) w10).setCell (p := ⟨gs, 2, none⟩) (.inl rfl) _) fun b o e h => Hrow10.out.ne_blk Hblk10.out (by decide) b o e h
          rw [List.flatMap_append]
          simpa using h
        · have h := Hown10.out.only (S := fun b => b = gs) (w' := w10.setCell ⟨gs, 2, none⟩ (.slice AL2 (k + 1) cL2)) ((Only.refl (fun b => b = gs) w10).setCell (p := ⟨gs, 2, none⟩) (.inl rfl) _) fun b o e h => Hown10.out.ne_blk Hblk10.out (by decide) b o e h
          have e : leftV all (k + 1) = leftV all k ++ [.int .i64 (lv : Int)] := by
            unfold leftV
            rw [List.range_succ, List.map_append, Hlv.out, Hbs.out]
            rfl
          rw [e]
          exact h
        · rw [List.length_append, HS6.out.len]; rfl
        · intro j hj h2
          rcases Nat.lt_or_ge j k with h | h
          · obtain ⟨z, hz, hz2⟩ := HS6.out.mat j h h2
            exact ⟨z, by rw [List.getElem?_append_left (by rw [HS6.out.len]; exact h)]; exact hz, hz2⟩
          · obtain rfl : j = k := by omega
            exact ⟨y, by rw [List.getElem?_append_right (by rw [HS6.out.len]; exact h), HS6.out.len, Nat.sub_self]; rfl, by rw [← Hxe.out]; exact Has.out⟩
        · intro z hz
          have hz2 : Held w10 w.heap.size z.p := by
            rcases List.mem_append.1 hz with h | h
            · exact Hown10b.out z h
            · rcases List.mem_singleton.1 h with rfl
              exact Hyo10.out
          exact hz2.only ((Only.refl (fun b => b = gs) w10).setCell (p := ⟨gs, 2, none⟩) (.inl rfl) _) fun b o e h => hz2.ne_blk Hblk10.out (by decide) b o e h
        · exact Hrd10.out.only ((Only.refl (fun b => b = gs) w10).setCell (p := ⟨gs, 2, none⟩) (.inl rfl) _) (fun h => hgs h.symm) fun b o e h => (HA.out b o e).1 h
        · exact HOw10.out.setCell (p := ⟨gs, 2, none⟩) (.inl (.inr rfl)) _
      · have h6 : x.kind = 6 := by have := Hx.out.k1; have := Hx.out.k6; omega
        clear h1 h2 h3 h4 h5
        have q1 : (x.kind == 1) = false := by rw [beq_eq_false_iff_ne]; omega
        have q2 : (x.kind == 2) = false := by rw [beq_eq_false_iff_ne]; omega
        have q3 : (x.kind == 3) = false := by rw [beq_eq_false_iff_ne]; omega
        have q4 : (x.kind == 4) = false := by rw [beq_eq_false_iff_ne]; omega
        have q5 : (x.kind == 5) = false := by rw [beq_eq_false_iff_ne]; omega
        have g2 : (x.kind == 6) = true := by rw [beq_iff_eq]; exact h6
        have hform : itemL x = x.p.ys := by unfold itemL; rw [if_neg (by omega), if_neg (by omega), if_neg (by omega), if_pos h6]
        have hpar := rRaw_form (formsL (all.take k)) x.p.ys (formsL (all.drop (k + 1)))
        rw [← hform, ← Hsp.out, hform] at hpar
        have hc := rRaw_any g c _ (x.p.ys.length : Int) A bs wa Hrda.out hl
        rw [hpar] at hc
        rw [hform] at Hnx
        have Hkd := Lib.hid h6
        clear hform hpar h6
        go_wp2_with fail
        rw [← Hwa.out]
        refine hc.mono ?_
        rintro e w5 ⟨A5, c5, rfl, hown5, hrd5, ho5⟩
        rw [Int.toNat_natCast] at hrd5
        have hown5b := hown5.mono (base' := w.heap.size) (by have := HO.out.size; omega)
        have Hown5 := Lib.hid hown5b
        clear hown5 hown5b
        have hB5 := HBa.out.only ho5 (by omega)
        have hf5 := hB5.frozen 2
        have hc51 : w5.cell? ⟨wr.heap.size, 2, none⟩ = some (.slice none 0 0) := hB5.cell 2
        have hgi := hB5.lt
        have Hrd5 := Lib.hid hrd5
        have Ho5 := Lib.hid ho5
        have HB5 := Lib.hid hB5
        clear hc hrd5 ho5 hB5
        go_wp2_with fail
        obtain ⟨y, hy⟩ : ∃ y : Item, y = ⟨x.kind, 0, ⟨A5, c5, x.p.ys⟩⟩ := ⟨_, rfl⟩
        obtain ⟨w6, hw6⟩ : ∃ w6, w6 = w5.setCell ⟨wr.heap.size, 2, none⟩ (.slice A5 x.p.ys.length c5) := ⟨_, rfl⟩
        have hB6 : Blk w6 wr.heap.size 30 (itemCells y).toArray := by rw [hw6, hy]; exact Blk.setL (cs := [.int .i64 x.kind, .int .i64 0, .slice none 0 0]) HB5.out 2 _
        have ho6 : Only (fun b => b = g) wr w6 := by rw [hw6]; exact (((Only.of_fresh Hba.out).trans Ho5.out).setCell (p := ⟨wr.heap.size, 2, none⟩) (.inr (Nat.le_refl _)) _)
        have hrd6 : Rd w6 g A c bs (formsL (all.take (k + 1))).length false 0 := by
          rw [hw6, Hnx.out]
          exact Hrd5.out.only ((Only.refl (fun b => b = wr.heap.size) w5).setCell (p := ⟨wr.heap.size, 2, none⟩) (.inl rfl) _) (by omega) fun b o e => by have := (HA.out b o e).2; have := HO.out.size; omega
        have has : As y x := by
          rw [hy]
          exact ⟨rfl, fun h => absurd h (by have := Hkd.out; omega), fun _ => rfl, fun h => absurd h (show ¬ x.kind ≤ 3 by have := Hkd.out; omega)⟩
        have hyo : Held w6 w.heap.size y.p := by rw [hy, hw6]; exact (Held.of_own Hown5.out).only ((Only.refl (fun b => b = wr.heap.size) w5).setCell (p := ⟨wr.heap.size, 2, none⟩) (.inl rfl) _) fun b o e h => (Held.of_own Hown5.out).ne_blk HB5.out (by decide) b o e h
        have hS6 := HS.out.step Hrd2.out.blk ho6 hgs
        have c0 : w6.cell? ⟨wr.heap.size, 0, none⟩ = some (.int .i64 y.kind) := hB6.cell 0
        have c1 : w6.cell? ⟨wr.heap.size, 1, none⟩ = some (.int .i64 y.n) := hB6.cell 1
        have c2 : w6.cell? ⟨wr.heap.size, 2, none⟩ = some (.slice y.p.A y.p.ys.length y.p.c) := hB6.cell 2
        rw [← hw6]
        have hgi6 := hB6.lt
        have HB6 := Lib.hid hB6
        have HO6 := Lib.hid (HO.out.trans (ho6.mono fun _ _ e => .inl e))
        have Hrd6 := Lib.hid hrd6
        have Has := Lib.hid has
        have Hyo := Lib.hid hyo
        have HS6 := Lib.hid hS6
        clear hw6 hB6 ho6 hrd6 has hyo hS6 HB5 Ho5 Hrd5 hf5 hc51 hy HBa Hrda Hwa HS Hrd2 HO s0 ck cp hgi
        have s1 : w6.cell? ⟨gs, 1, none⟩ = some (.slice AT k cT) := HS6.out.blk.cell 1
        have f1 := HS6.out.blk.frozen 1
        have hgs6 := HS6.out.blk.lt
        have hb6 : w.heap.size ≤ w6.heap.size := HO6.out.size
        have hfa : ∀ o, ((w6.alloc o).drew).frozen? ⟨gs, 1, none⟩ = false := fun o => by rw [(ocell (((Only.refl (fun _ => False) w6).alloc o).drew)).2 gs 1 hgs6 (fun h => h)]; exact f1
        refine region_heldT 8 (fun w' => w'.cell? ⟨gs, 1, none⟩ = some (.slice AT k cT) ∧ w'.frozen? ⟨gs, 1, none⟩ = false ∧ w'.cell? ⟨wr.heap.size, 0, none⟩ = some (.int .i64 y.kind) ∧ w'.cell? ⟨wr.heap.size, 1, none⟩ = some (.int .i64 y.n) ∧ w'.cell? ⟨wr.heap.size, 2, none⟩ = some (.slice y.p.A y.p.ys.length y.p.c)) (by kernel_rfl) (by decide) ?_
        have hS0 : (fun w' : World => w'.cell? ⟨gs, 1, none⟩ = some (.slice AT k cT) ∧ w'.frozen? ⟨gs, 1, none⟩ = false ∧ w'.cell? ⟨wr.heap.size, 0, none⟩ = some (.int .i64 y.kind) ∧ w'.cell? ⟨wr.heap.size, 1, none⟩ = some (.int .i64 y.n) ∧ w'.cell? ⟨wr.heap.size, 2, none⟩ = some (.slice y.p.A y.p.ys.length y.p.c)) w6.drew := ⟨s1, f1, c0, c1, c2⟩
        refine HeadW.take 0 (v := .pointer (some ⟨gs, 0, none⟩)) rfl (by kernel_rfl) (by kernel_rfl) (by kernel_rfl) (by decide) (by decide) (fun _ _ _ hL => seqB_ready hL.1) (by kernel_rfl) (by kernel_rfl) (fun _ _ _ h => h) hS0 (.inl ⟨by rfl, by intro w hSw; (try dsimp only at hSw); go_simp⟩) ?_
        simp only [Act.put, List.setIfInBounds_toArray]
        refine HeadW.take 1 (v := .pointer (some ⟨gs, 0, none⟩)) rfl (by kernel_rfl) (by kernel_rfl) (by kernel_rfl) (by decide) (by decide) (fun _ _ _ hL => seqB_ready hL.1) (by kernel_rfl) (by kernel_rfl) (fun _ _ _ h => h) hS0 (.inl ⟨by rfl, by intro w hSw; (try dsimp only at hSw); go_simp⟩) ?_
        simp only [Act.put]
        refine HeadW.take 2 (v := .pointer (some ⟨gs, 0, none⟩)) rfl (by kernel_rfl) (by kernel_rfl) (by kernel_rfl) (by decide) (by decide) (fun _ _ _ hL => seqB_ready hL.1) (by kernel_rfl) (by kernel_rfl) (fun _ _ _ h => h) hS0 (.inl ⟨by rfl, by intro w hSw; (try dsimp only at hSw); go_simp⟩) ?_
        simp only [Act.put]
        refine HeadW.take 3 (v := .pointer (some ⟨gs, 1, none⟩)) rfl (by kernel_rfl) (by kernel_rfl) (by kernel_rfl) (by decide) (by decide) (fun _ _ _ hL => seqB_ready hL.1) (by kernel_rfl) (by kernel_rfl) (fun _ _ _ h => h) hS0 (.inl ⟨by rfl, by intro w hSw; (try dsimp only at hSw); go_simp⟩) ?_
        simp only [Act.put]
        refine HeadW.take 4 (v := .slice AT k cT) rfl (by kernel_rfl) (by kernel_rfl) (by kernel_rfl) (by decide) (by decide) (fun _ _ _ hL => seqB_ready hL.1) (by kernel_rfl) (by kernel_rfl) (fun _ _ _ h => h) hS0 (.inl ⟨by rfl, by intro w hSw; (try dsimp only at hSw); go_simp⟩) ?_
        simp only [Act.put]
        refine HeadW.take 5 (v := .agg #[.int .i64 y.kind, .int .i64 y.n, .slice y.p.A y.p.ys.length y.p.c]) rfl (by kernel_rfl) (by kernel_rfl) (by kernel_rfl) (by decide) (by decide) (fun _ _ _ hL => seqB_ready hL.1) (by kernel_rfl) (by kernel_rfl) (fun _ _ _ h => h) hS0 (.inl ⟨by rfl, by intro w hSw; (try dsimp only at hSw); go_simp⟩) ?_
        simp only [Act.put]
        refine HeadW.one 6 rfl (by decide) (by kernel_rfl) fun K hK => ?_
        go_simp
        obtain ⟨wb, hwb⟩ : ∃ wb, wb = (w6.alloc (.cells #[.int .i64 y.kind, .int .i64 y.n, .slice y.p.A y.p.ys.length y.p.c] 30)).drew := ⟨_, rfl⟩
        have hOb : Below w6.heap.size w6 wb := by rw [hwb]; exact below_drewN ((Below.refl _ _).alloc (Nat.le_refl _) _) 1
        have hRb : RV wb (some ⟨w6.heap.size, 0, none⟩) (itemCells y) := by rw [hwb]; exact (RV.of_blk (Blk.new w6 _ #[_, _, _])).drew
        have hfb : wb.frozen? ⟨gs, 1, none⟩ = false := by rw [hwb]; exact hfa _
        have hzb : wb.heap.size = w6.heap.size + 1 := by rw [hwb]; simp
        have hSb := HS6.out.below hOb
        have hrdb := Hrd6.out.below hOb
        rw [← hwb]
        refine hK.out _ _ ⟨hSb.blk.cell 1, hfb, by rw [(bcell hOb).1 _ _ hgi6]; exact c0, by rw [(bcell hOb).1 _ _ hgi6]; exact c1, by rw [(bcell hOb).1 _ _ hgi6]; exact c2⟩ (fun hHeld => ?_)
        clear hK K hfa hS0 hwb s1 f1
        refine HeadW.one 7 rfl (by decide) (by kernel_rfl) fun K hK => ?_
        refine step_app (by rfl) (.tmp 74) (.tmp 76) eItem (by rfl) (base := w.heap.size) (n := k) (c := cT) (A := AT) (vs := told.flatMap itemCells) (by rfl) hSb.rowT (A' := some ⟨w6.heap.size, 0, none⟩) (m := 1) (c' := 1) (us := itemCells y) (by rfl) hRb rfl (items_one [y]) (by unfold maxLen; omega) (by omega) (by omega) (by simp) ?_
        intro A2 c2' w7 hown7 hgrow7 hat7
        have ho7 : Only (fun b => AT.map (·.block) = some b) wb w7 := Only.of_grown hgrow7 fun b e => e
        have hblk7 := hSb.blk.only ho7 (hSb.rowT.ne_map hSb.blk (by decide))
        have hleft7 := hSb.left.only ho7 (hSb.rowT.ne_map2 hSb.left (by decide))
        have hown7b : ∀ z ∈ told, Held w7 w.heap.size z.p := fun z hz => (hSb.own z hz).only ho7 (hSb.rowT.ne_held (hSb.own z hz) (by decide))
        have hyo7 : Held w7 w.heap.size y.p := (Hyo.out.below hOb).only ho7 (hSb.rowT.ne_held (Hyo.out.below hOb) (by decide))
        have hrd7 := hrdb.only ho7 (hSb.rowT.ne_map hrdb.blk (by decide)) fun b o e h => by have := (HA.out b o e).2; have := (HATlt.out b h).1; omega
        have hOw7 : Only (fun b => b = g ∨ b = gs) w w7 := (HO6.out.trans (Only.of_fresh hOb)).more ho7 fun b hb h => by have := (HATlt.out b h).1; omega
        have hgi7 : w7.cell? ⟨wr.heap.size, 0, none⟩ = some (.int .i64 y.kind) ∧ w7.cell? ⟨wr.heap.size, 1, none⟩ = some (.int .i64 y.n) ∧ w7.cell? ⟨wr.heap.size, 2, none⟩ = some (.slice y.p.A y.p.ys.length y.p.c) := by
          have hni : ¬ (AT.map (·.block) = some wr.heap.size) := fun h => by have := (HATlt.out _ h).2; omega
          refine ⟨?_, ?_, ?_⟩ <;> rw [(ocell ho7).1 _ _ (by omega) hni, (bcell hOb).1 _ _ hgi6] <;> assumption
        refine hK.out _ _ ⟨hblk7.cell 1, hblk7.frozen 1, hgi7⟩ (fun hHeld => ?_)
        refine fun _ => ⟨by kernel_rfl, ?_⟩
        have f71 := hblk7.frozen 1
        have c71 : w7.cell? ⟨gs, 1, none⟩ = some (.slice AT k cT) := hblk7.cell 1
        have hgs7 := hblk7.lt
        have Hblk7 := Lib.hid hblk7
        have Hown7 := Lib.hid hown7
        have Hleft7 := Lib.hid hleft7
        have Hown7b := Lib.hid hown7b
        have Hyo7 := Lib.hid hyo7
        have Hrd7 := Lib.hid hrd7
        have HOw7 := Lib.hid hOw7
        clear hK K hHeld hblk7 hown7 hleft7 hown7b hyo7 hrd7 hOw7 hgi7 hgrow7 hat7 ho7 hSb hrdb hOb hRb hfb hzb c0 c1 c2 Hba
        go_wp2_with fail
        obtain ⟨w8, hw8⟩ : ∃ w8, w8 = w7.setCell ⟨gs, 1, none⟩ (.slice A2 (k + 1) c2') := ⟨_, rfl⟩
        rw [← hw8]
        have ho8 : Only (fun b => b = gs) w7 w8 := by rw [hw8]; exact (Only.refl (fun b => b = gs) w7).setCell (p := ⟨gs, 1, none⟩) (.inl rfl) _
        have hblk8 : Blk w8 gs 83 #[.slice (some ⟨pb, poff, none⟩) all.length cW, .slice A2 (k + 1) c2', .slice AL k cL, .pointer (some ⟨g, 0, none⟩)] := by
          rw [hw8]; exact Blk.setL (cs := [.slice (some ⟨pb, poff, none⟩) all.length cW, .slice AT k cT, .slice AL k cL, .pointer (some ⟨g, 0, none⟩)]) Hblk7.out 1 _
        clear hw8
        have hown8 := Hown7.out.only ho8 fun b o e h => Hown7.out.ne_blk Hblk7.out (by decide) b o e h
        have hleft8 := Hleft7.out.only ho8 fun b o e h => Hleft7.out.ne_blk Hblk7.out (by decide) b o e h
        have hown8b : ∀ z ∈ told, Held w8 w.heap.size z.p := fun z hz => (Hown7b.out z hz).only ho8 fun b o e h => (Hown7b.out z hz).ne_blk Hblk7.out (by decide) b o e h
        have hyo8 := Hyo7.out.only ho8 fun b o e h => Hyo7.out.ne_blk Hblk7.out (by decide) b o e h
        have hrd8 := Hrd7.out.only ho8 (fun h => hgs h.symm) fun b o e h => (HA.out b o e).1 h
        have hOw8 : Only (fun b => b = g ∨ b = gs) w w8 := HOw7.out.trans (ho8.mono fun _ _ e => .inr e)
        have s2 : w8.cell? ⟨gs, 2, none⟩ = some (.slice AL k cL) := hblk8.cell 2
        have f2 := hblk8.frozen 2
        have hgs8 := hblk8.lt
        have hb8 : w.heap.size ≤ w8.heap.size := hOw8.size
        have hS0 : (fun w' : World => w'.cell? ⟨gs, 2, none⟩ = some (.slice AL k cL) ∧ w'.frozen? ⟨gs, 2, none⟩ = false) w8.drew := ⟨s2, f2⟩
        refine region_heldT 9 (fun w' => w'.cell? ⟨gs, 2, none⟩ = some (.slice AL k cL) ∧ w'.frozen? ⟨gs, 2, none⟩ = false) (by kernel_rfl) (by decide) ?_
        refine HeadW.take 0 (v := .pointer (some ⟨gs, 0, none⟩)) rfl (by kernel_rfl) (by kernel_rfl) (by kernel_rfl) (by decide) (by decide) (fun _ _ _ hL => seqB_ready hL.1) (by kernel_rfl) (by kernel_rfl) (fun _ _ _ h => h) hS0 (.inl ⟨by rfl, by intro w hSw; (try dsimp only at hSw); go_simp⟩) ?_
        simp only [Act.put, List.setIfInBounds_toArray]
        refine HeadW.take 1 (v := .pointer (some ⟨gs, 0, none⟩)) rfl (by kernel_rfl) (by kernel_rfl) (by kernel_rfl) (by decide) (by decide) (fun _ _ _ hL => seqB_ready hL.1) (by kernel_rfl) (by kernel_rfl) (fun _ _ _ h => h) hS0 (.inl ⟨by rfl, by intro w hSw; (try dsimp only at hSw); go_simp⟩) ?_
        simp only [Act.put]
        refine HeadW.take 2 (v := .pointer (some ⟨gs, 0, none⟩)) rfl (by kernel_rfl) (by kernel_rfl) (by kernel_rfl) (by decide) (by decide) (fun _ _ _ hL => seqB_ready hL.1) (by kernel_rfl) (by kernel_rfl) (fun _ _ _ h => h) hS0 (.inl ⟨by rfl, by intro w hSw; (try dsimp only at hSw); go_simp⟩) ?_
        simp only [Act.put]
        refine HeadW.take 3 (v := .pointer (some ⟨gs, 2, none⟩)) rfl (by kernel_rfl) (by kernel_rfl) (by kernel_rfl) (by decide) (by decide) (fun _ _ _ hL => seqB_ready hL.1) (by kernel_rfl) (by kernel_rfl) (fun _ _ _ h => h) hS0 (.inl ⟨by rfl, by intro w hSw; (try dsimp only at hSw); go_simp⟩) ?_
        simp only [Act.put]
        refine HeadW.take 4 (v := .slice AL k cL) rfl (by kernel_rfl) (by kernel_rfl) (by kernel_rfl) (by decide) (by decide) (fun _ _ _ hL => seqB_ready hL.1) (by kernel_rfl) (by kernel_rfl) (fun _ _ _ h => h) hS0 (.inl ⟨by rfl, by intro w hSw; (try dsimp only at hSw); go_simp⟩) ?_
        simp only [Act.put]
        refine HeadW.take 5 (v := .pointer (some ⟨g, 0, none⟩)) rfl (by kernel_rfl) (by kernel_rfl) (by kernel_rfl) (by decide) (by decide) (fun _ _ _ hL => seqB_ready hL.1) (by kernel_rfl) (by kernel_rfl) (fun _ _ _ h => h) hS0 (.inl ⟨by rfl, by intro w hSw; (try dsimp only at hSw); go_simp⟩) ?_
        simp only [Act.put]
        refine HeadW.one 6 rfl (by decide) (by kernel_rfl) fun K hK => ?_
        go_simp
        refine (rLeft_any g c _ A bs w8.drew (hrd8.drewN 1) hl).mono ?_
        rintro e _ ⟨rfl, m, rfl⟩
        have hzl : (formsL (all.take (k + 1))).length ≤ bs.length := hrd8.le
        obtain ⟨lv, hlv⟩ : ∃ lv : Nat, lv = bs.length - (formsL (all.take (k + 1))).length := ⟨_, rfl⟩
        rw [← hlv]
        obtain ⟨w9, hw9⟩ : ∃ w9, w9 = w8.drew.drewN m := ⟨_, rfl⟩
        have hO9 : Below w8.heap.size w8 w9 := by rw [hw9]; exact below_drewN (below_drewN (Below.refl _ _) 1) m
        have hz9 : w9.heap.size = w8.heap.size := by rw [hw9]; rfl
        have hS9 : w9.cell? ⟨gs, 2, none⟩ = some (.slice AL k cL) ∧ w9.frozen? ⟨gs, 2, none⟩ = false := by rw [hw9]; exact ⟨s2, f2⟩
        rw [← hw9]
        have Hlv := Lib.hid hlv
        clear hw9 hlv
        refine hK.out _ _ hS9 (fun hHeld => ?_)
        clear hK K hHeld hS0
        refine HeadW.one 7 rfl (by decide) (by kernel_rfl) fun K hK => ?_
        go_simp
        obtain ⟨wc, hwc⟩ : ∃ wc, wc = w9.alloc (.cells #[.int .i64 (lv : Int)] 3) := ⟨_, rfl⟩
        have hOc : Below w9.heap.size w9 wc := by rw [hwc]; exact (Below.refl _ _).alloc (Nat.le_refl _) _
        have hRc : RV wc (some ⟨w9.heap.size, 0, none⟩) [.int .i64 (lv : Int)] := by rw [hwc]; exact RV.of_blk (Blk.new w9 _ #[_])
        have hzc : wc.heap.size = w9.heap.size + 1 := by rw [hwc]; simp
        rw [hz9] at hRc
        have hOc8 : Below w8.heap.size w8 wc := hO9.trans (hOc.mono (by omega))
        have hblkc := hblk8.below hOc8 hgs8
        have hleftc := hleft8.below hOc8 (Nat.le_refl _)
        have hownc := hown8.below hOc8 (Nat.le_refl _)
        have hrdc := hrd8.below hOc8
        rw [← hwc]
        clear hwc
        refine hK.out _ _ ⟨hblkc.cell 2, hblkc.frozen 2⟩ (fun hHeld => ?_)
        clear hK K hHeld
        refine HeadW.one 8 rfl (by decide) (by kernel_rfl) fun K hK => ?_
        refine step_app (by rfl) (.tmp 84) (.tmp 87) eInt (by rfl) (base := w.heap.size) (n := k) (c := cL) (A := AL) (vs := leftV all k) (by rfl) hleftc (A' := some ⟨w8.heap.size, 0, none⟩) (m := 1) (c' := 1) (us := [.int .i64 (lv : Int)]) (by rfl) hRc rfl (fun v hv => by rcases List.mem_singleton.1 hv with rfl; rfl) (by unfold maxLen; omega) (by omega) (by omega) (by simp) ?_
        intro AL2 cL2 w10 hown10 hgrow10 hat10
        have ho10 : Only (fun b => AL.map (·.block) = some b) wc w10 := Only.of_grown hgrow10 fun b e => e
        have hALlt : ∀ b, AL.map (·.block) = some b → w.heap.size ≤ b := fun b h => (Own.row hleft8 b h).1
        have hblk10 := hblkc.only ho10 (hleftc.ne_map hblkc (by decide))
        have hrow10 := hownc.only ho10 (hleftc.ne_map2 hownc (by decide))
        have hown10b : ∀ z ∈ told, Held w10 w.heap.size z.p := fun z hz => ((hown8b z hz).below hOc8).only ho10 (hleftc.ne_held ((hown8b z hz).below hOc8) (by decide))
        have hyo10 : Held w10 w.heap.size y.p := (hyo8.below hOc8).only ho10 (hleftc.ne_held (hyo8.below hOc8) (by decide))
        have hrd10 := hrdc.only ho10 (hleftc.ne_map hrdc.blk (by decide)) fun b o e h => by have := (HA.out b o e).2; have := hALlt b h; omega
        have hOw10 : Only (fun b => b = g ∨ b = gs) w w10 := (hOw8.trans (Only.of_fresh hOc8)).more ho10 fun b hb h => by have := hALlt b h; omega
        refine hK.out _ _ ⟨hblk10.cell 2, hblk10.frozen 2⟩ (fun hHeld => ?_)
        refine fun _ => ⟨by kernel_rfl, ?_⟩
        have f102 := hblk10.frozen 2
        have c102 : w10.cell? ⟨gs, 2, none⟩ = some (.slice AL k cL) := hblk10.cell 2
        have hgs10 := hblk10.lt
        have Hblk10 := Lib.hid hblk10
        have Hown10 := Lib.hid hown10
        have Hrow10 := Lib.hid hrow10
        have Hown10b := Lib.hid hown10b
        have Hyo10 := Lib.hid hyo10
        have Hrd10 := Lib.hid hrd10
        have HOw10 := Lib.hid hOw10
        clear hK K hHeld hblk10 hown10 hrow10 hown10b hyo10 hrd10 hOw10 hgrow10 hat10 ho10 hblkc hleftc hownc hrdc hOc hOc8 hRc hO9 hS9 hblk8 hown8 hleft8 hown8b hyo8 hrd8 hOw8 ho8 s2 f2
        go_wp2_with fail
        refine ⟨⟨k + 1, A2, c2', AL2, cL2, told ++ [y], by omega, by go_num, ⟨?_, ?_, ?_, ?_, ?_, ?_⟩, ?_, ?_⟩, by simp [intOf]; omega⟩
        · exact Blk.setL (cs := [.slice (some ⟨pb, poff, none⟩) all.length cW, .slice A2 (k + 1) c2', .slice AL k cL, .pointer (some ⟨g, 0, none⟩)]) Hblk10.out 2 _
        · have h := Hrow10.out.only (S := fun b => b = gs) (w' := w10.setCell ⟨gs, 2, none⟩ (.slice AL2 (k + 1) cL2)) ((Only.refl (fun b => b = gs) w10).setCell (p := ⟨gs, 2, none⟩) (.inl rfl) _) fun b o e h => Hrow10.out.ne_blk Hblk10.out (by decide) b o e h
          rw [List.flatMap_append]
          simpa using h
        · have h := Hown10.out.only (S := fun b => b = gs) (w' := w10.setCell ⟨gs, 2, none⟩ (.slice AL2 (k + 1) cL2)) ((Only.refl (fun b => b = gs) w10).setCell (p := ⟨gs, 2, none⟩) (.inl rfl) _) fun b o e h => Hown10.out.ne_blk Hblk10.out (by decide) b o e h
          have e : leftV all (k + 1) = leftV all k ++ [.int .i64 (lv : Int)] := by
            unfold leftV
            rw [List.range_succ, List.map_append, Hlv.out, Hbs.out]
            rfl
          rw [e]
          exact h
        · rw [List.length_append, HS6.out.len]; rfl
        · intro j hj h2
          rcases Nat.lt_or_ge j k with h | h
          · obtain ⟨z, hz, hz2⟩ := HS6.out.mat j h h2
            exact ⟨z, by rw [List.getElem?_append_left (by rw [HS6.out.len]; exact h)]; exact hz, hz2⟩
          · obtain rfl : j = k := by omega
            exact ⟨y, by rw [List.getElem?_append_right (by rw [HS6.out.len]; exact h), HS6.out.len, Nat.sub_self]; rfl, by rw [← Hxe.out]; exact Has.out⟩
        · intro z hz
          have hz2 : Held w10 w.heap.size z.p := by
            rcases List.mem_append.1 hz with h | h
            · exact Hown10b.out z h
            · rcases List.mem_singleton.1 h with rfl
              exact Hyo10.out
          exact hz2.only ((Only.refl (fun b => b = gs) w10).setCell (p := ⟨gs, 2, none⟩) (.inl rfl) _) fun b o e h => hz2.ne_blk Hblk10.out (by decide) b o e h
        · exact Hrd10.out.only ((Only.refl (fun b => b = gs) w10).setCell (p := ⟨gs, 2, none⟩) (.inl rfl) _) (fun h => hgs h.symm) fun b o e h => (HA.out b o e).1 h
        · exact HOw10.out.setCell (p := ⟨gs, 2, none⟩) (.inl (.inr rfl)) _
    · obtain rfl : k = all.length := by omega
      have hfull : (formsL (all.take all.length)).length = bs.length := by rw [List.take_length, Hbs.out]
      rw [hfull] at hrd
      have HS := Lib.hid hS
      have Hrd2 := Lib.hid hrd
      have HO := Lib.hid hO
      clear hS hrd hO hfull
      go_wp2_with fail
      go_end0
      exact ⟨rfl, Hrd2.out, HO.out, AT, cT, AL, cL, told, HS.out⟩
end Go.Proofs.Ytefaapcekbgjoaa
