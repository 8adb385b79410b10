/- The contract of a Read by a sheet over any bytes. -/
import Derived.Test.YtefaapcekbgjoaaFormsL
namespace Go.Proofs.Ytefaapcekbgjoaa
open Go.RowKit

theorem SheetG.only {S : Nat → Prop} {w w' : World} {bs : List UInt8} {gs g base : Nat} {AW : Option Addr} {cW : Nat} {all : List Item} {k : Nat} {ats : Nat → Nat} {AT : Option Addr} {cT : Nat} {AL : Option Addr} {cL : Nat} {told : List Item}
    (h : SheetG w bs gs g base AW cW all k ats AT cT AL cL told) (ho : Only S w w') (hS : ∀ b, S b → b < base) (hgs : ¬ S gs) : SheetG w' bs gs g base AW cW all k ats AT cT AL cL told :=
  ⟨h.blk.only ho hgs, h.rowT.only ho fun b o e hs => by
      have h1 := (Own.row h.rowT b (by rw [e]; rfl)).1
      have h2 := hS b hs
      omega, h.left.only ho fun b o e hs => by
      have h1 := (Own.row h.left b (by rw [e]; rfl)).1
      have h2 := hS b hs
      omega, h.len, h.zero, h.step, fun y hy => (h.own y hy).only ho fun b o e hs => by
      have h1 := ((h.own y hy).lt b o e).1
      have h2 := hS b hs
      omega, h.sole⟩
/-- Told whole (then the answer is as the place behind it says), or stuck (then the answer is what stuck it). -/
def ReadFPost (gs : Nat) (AW : Option Addr) (cW : Nat) (bs : List UInt8) (all : List Item) (w : World) (e : Ending) (w' : World) : Prop :=
  Only (fun b => b = gs) w w' ∧ ((∃ f : Int, f ≠ 0 ∧ Stuck bs all f ∧ e = .returned (.int .i64 f)) ∨
    ∃ g base ats AT cT AL cL told, w.heap.size < base ∧ ats all.length ≤ bs.length ∧ e = .returned (.int .i64 (readE 0 (ats all.length) bs.length)) ∧ SheetG w' bs gs g base AW cW all all.length ats AT cT AL cL told)
theorem read_full (gs c2 cW : Nat) (A2 AW : Option Addr) (bs : List UInt8) (all : List Item) (w : World) (hp : Sl w ⟨A2, c2, bs⟩) (hsh : Blk w gs 83 #[.slice AW all.length cW, .slice none 0 0, .slice none 0 0, .pointer none])
    (hRW : RV w AW (all.flatMap itemCells)) (hAW : ∀ b o, AW = some ⟨b, o, none⟩ → b < w.heap.size ∧ b ≠ gs) (hok : ∀ x ∈ all, 1 ≤ x.kind ∧ x.kind ≤ 6 ∧ x.p.ys.length ≤ 140737488355328) (hl : bs.length ≤ 140737488351232) (hn : all.length ≤ 400) :
    Calls Try.prog 30 #[.slice A2 bs.length c2, .func (.func 50) #[.pointer (some ⟨gs, 0, none⟩)] #[]] w (ReadFPost gs AW cW bs all w) := by
  have hgs := hsh.lt
  refine (read_any ⟨A2, c2, bs⟩ w hp (by dsimp only; omega) 50 #[.pointer (some ⟨gs, 0, none⟩)] #[] (fun b => b = gs)
    (fun g at_ o f wx => (f ≠ 0 ∧ Stuck bs all f) ∨ (f = 0 ∧ ∃ base ats AT cT AL cL told, at_ = ats all.length ∧ at_ ≤ bs.length ∧ w.heap.size < base ∧ g < base ∧ SheetG wx bs gs g base AW cW all all.length ats AT cT AL cL told))
    (fun g wx => by go_simp)
    (fun g c A wx hg hbx hrd hA => by
      have hzx := hbx.size
      have hglx := hrd.blk.lt
      refine (run_gen gs g c cW A AW bs all wx (hsh.below hbx (by omega)) (hRW.below hbx) (fun b o e => by have := hAW b o e; omega) (by omega) (fun b o e => by have := hA b o e; omega) hok hrd (by omega) hn).mono ?_
      rintro e wy ⟨hO, h⟩
      rcases h with ⟨rfl, ats, AT, cT, AL, cL, told, hrd2, hS⟩ | ⟨f, at_, hf, rfl, hrd2, hst⟩
      · exact ⟨ats all.length, false, 0, hrd2, .inr ⟨rfl, wx.heap.size, ats, AT, cT, AL, cL, told, rfl, hrd2.le, by omega, hglx, hS⟩, hO, .inl rfl⟩
      · exact ⟨at_, true, f, hrd2, .inl ⟨hf, hst⟩, hO, .inr ⟨rfl, hf⟩⟩)
    (fun b hb => by omega)).mono ?_
  rintro e w5 ⟨g, at_, o, f, wy, hgg, hT, rfl, hO1, hO2⟩
  refine ⟨hO2, ?_⟩
  rcases hT with ⟨hf, hst⟩ | ⟨rfl, base, ats, AT, cT, AL, cL, told, rfl, hle, hbase1, hbase2, hS⟩
  · exact .inl ⟨f, hf, hst, by unfold readE; rw [if_pos hf]⟩
  · exact .inr ⟨g, base, ats, AT, cT, AL, cL, told, hbase1, hle, rfl, hS.only hO1 (by rintro b (h | h) <;> omega) (by rintro (h | h) <;> omega)⟩
def ReadGPost (gs : Nat) (AW : Option Addr) (cW : Nat) (bs : List UInt8) (all : List Item) (w : World) (e : Ending) (w' : World) : Prop :=
  Only (fun b => b = gs) w w' ∧ ∃ r : Int, e = .returned (.int .i64 r) ∧ (r = 0 → ∃ g base ats AT cT AL cL told, w.heap.size < base ∧ ats all.length = bs.length ∧ SheetG w' bs gs g base AW cW all all.length ats AT cT AL cL told)
theorem read_gen (gs c2 cW : Nat) (A2 AW : Option Addr) (bs : List UInt8) (all : List Item) (w : World) (hp : Sl w ⟨A2, c2, bs⟩) (hsh : Blk w gs 83 #[.slice AW all.length cW, .slice none 0 0, .slice none 0 0, .pointer none])
    (hRW : RV w AW (all.flatMap itemCells)) (hAW : ∀ b o, AW = some ⟨b, o, none⟩ → b < w.heap.size ∧ b ≠ gs) (hok : ∀ x ∈ all, 1 ≤ x.kind ∧ x.kind ≤ 6 ∧ x.p.ys.length ≤ 140737488355328) (hl : bs.length ≤ 140737488351232) (hn : all.length ≤ 400) :
    Calls Try.prog 30 #[.slice A2 bs.length c2, .func (.func 50) #[.pointer (some ⟨gs, 0, none⟩)] #[]] w (ReadGPost gs AW cW bs all w) := by
  refine (read_full gs c2 cW A2 AW bs all w hp hsh hRW hAW hok hl hn).mono ?_
  rintro e w5 ⟨hO, h⟩
  refine ⟨hO, ?_⟩
  rcases h with ⟨f, hf, -, rfl⟩ | ⟨g, base, ats, AT, cT, AL, cL, told, hb, hle, rfl, hS⟩
  · exact ⟨f, rfl, fun h => absurd h hf⟩
  · refine ⟨_, rfl, fun hr => ⟨g, base, ats, AT, cT, AL, cL, told, hb, ?_, hS⟩⟩
    unfold readE at hr
    repeat' split at hr
    all_goals omega
end Go.Proofs.Ytefaapcekbgjoaa
