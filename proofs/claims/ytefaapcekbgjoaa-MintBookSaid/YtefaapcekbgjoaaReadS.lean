/- The contract of a Read by a sheet, over bytes that its things' forms make. -/
import Derived.Test.YtefaapcekbgjoaaBackL
namespace Go.Proofs.Ytefaapcekbgjoaa
open Go.RowKit

def SheetPost (gs : Nat) (AW : Option Addr) (cW : Nat) (all : List Item) (w : World) (e : Ending) (w' : World) : Prop :=
  e = .returned (.int .i64 0) ∧ Only (fun b => b = gs) w w' ∧ ∃ g base AT cT AL cL told, w.heap.size < base ∧ Sheet w' gs g base AW cW all all.length AT cT AL cL told
theorem read_sheet (gs c2 cW : Nat) (A2 AW : Option Addr) (all : List Item) (w : World) (hp : Sl w ⟨A2, c2, formsL all⟩) (hsh : Blk w gs 83 #[.slice AW all.length cW, .slice none 0 0, .slice none 0 0, .pointer none])
    (hRW : RV w AW (all.flatMap itemCells)) (hAW : ∀ b o, AW = some ⟨b, o, none⟩ → b < w.heap.size ∧ b ≠ gs) (hok : ∀ x ∈ all, Okay x) (hl : (formsL all).length ≤ 4194304) (hn : all.length ≤ 400) :
    Calls Try.prog 30 #[.slice A2 (formsL all).length c2, .func (.func 50) #[.pointer (some ⟨gs, 0, none⟩)] #[]] w (SheetPost gs AW cW all w) := by
  have hgs := hsh.lt
  refine (read_any ⟨A2, c2, formsL all⟩ w hp (by dsimp only; omega) 50 #[.pointer (some ⟨gs, 0, none⟩)] #[] (fun b => b = gs)
    (fun g at_ o f wx => at_ = (formsL all).length ∧ f = 0 ∧ ∃ base AT cT AL cL told, w.heap.size < base ∧ g < base ∧ Sheet wx gs g base AW cW all all.length AT cT AL cL told)
    (fun g wx => by go_simp)
    (fun g c A wx hg hbx hrd hA => by
      have hzx := hbx.size
      have hglx := hrd.blk.lt
      refine (run_any gs g c cW A AW (formsL all) all wx (hsh.below hbx (by omega)) (hRW.below hbx) (fun b o e => by have := hAW b o e; omega) (by omega) rfl (fun b o e => by have := hA b o e; omega) hok hrd (by omega) hn).mono ?_
      rintro e wy ⟨rfl, hrd2, hO, AT, cT, AL, cL, told, hS⟩
      exact ⟨(formsL all).length, false, 0, hrd2, ⟨rfl, rfl, wx.heap.size, AT, cT, AL, cL, told, by omega, hglx, hS⟩, hO, .inl rfl⟩)
    (fun b hb => by omega)).mono ?_
  rintro e w5 ⟨g, at_, o, f, wy, hgg, ⟨hat, rfl, base, AT, cT, AL, cL, told, hbase1, hbase2, hS⟩, rfl, hO1, hO2⟩
  subst hat
  refine ⟨by simp [readE], hO2, g, base, AT, cT, AL, cL, told, hbase1, hS.only hO1 (by rintro b (h | h) <;> omega) (by rintro (h | h) <;> omega)⟩
end Go.Proofs.Ytefaapcekbgjoaa
