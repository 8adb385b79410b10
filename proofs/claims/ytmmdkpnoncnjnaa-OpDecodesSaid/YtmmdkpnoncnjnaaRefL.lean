/- The reference's way to a number's form, plain lists: the bytes from the highest on, zeros ahead left out. -/
import Derived.Test.YtmmdkpnoncnjnaaOrdL
namespace Go.Proofs.Ytmmdkpnoncnjnaa

/-- With j bytes still to come, out is what was written of u's bytes. -/
def FormR (u j : Nat) (out : List UInt8) : Prop := (out = [] ∧ byteCnt u 8 = byteCnt u j) ∨ (out ≠ [] ∧ out ++ beBytes u j = beBytes u (byteCnt u 8))
theorem FormR.start (u : Nat) : FormR u 8 [] := .inl ⟨rfl, rfl⟩
theorem FormR.len {u j : Nat} {out : List UInt8} (h : FormR u j out) (hj : j ≤ 8) : out.length + j ≤ 8 := by
  rcases h with ⟨rfl, _⟩ | ⟨_, h⟩
  · simpa using hj
  · have e := congrArg List.length h
    rw [List.length_append, length_beBytes, length_beBytes] at e
    have := byteCnt_le u 8
    omega
theorem small_of_cnt (u j : Nat) (hu : u < 2 ^ 64) (h : byteCnt u 8 = byteCnt u (j + 1)) : u / 2 ^ (8 * j) < 256 := by
  have h1 := byteCnt_lt u 8 (by exact hu)
  rw [h] at h1
  have h2 := byteCnt_le u (j + 1)
  have h3 : 2 ^ (8 * byteCnt u (j + 1)) ≤ 2 ^ (8 * (j + 1)) := Nat.pow_le_pow_right (by omega) (by omega)
  rw [Nat.div_lt_iff_lt_mul (Nat.two_pow_pos _)]
  have e : 2 ^ (8 * (j + 1)) = 256 * 2 ^ (8 * j) := by rw [Nat.mul_add, Nat.pow_add, Nat.mul_comm]
  omega
theorem FormR.skip {u j : Nat} (hu : u < 2 ^ 64) (h : FormR u (j + 1) []) (hx : u / 2 ^ (8 * j) % 256 = 0) : FormR u j [] := by
  rcases h with ⟨_, h⟩ | ⟨h, _⟩
  · refine .inl ⟨rfl, h.trans (byteCnt_step u j ?_)⟩
    have := small_of_cnt u j hu h
    generalize u / 2 ^ (8 * j) = y at *
    omega
  · exact absurd rfl h
theorem FormR.first {u j : Nat} (h : FormR u (j + 1) []) (hx : ¬ u / 2 ^ (8 * j) % 256 = 0) : FormR u j [UInt8.ofNat (u / 2 ^ (8 * j))] := by
  rcases h with ⟨_, h⟩ | ⟨h, _⟩
  · refine .inr ⟨by simp, ?_⟩
    rw [h, byteCnt_stop u j (fun e => hx (by rw [e]))]
    rfl
  · exact absurd rfl h
theorem FormR.next {u j : Nat} {out : List UInt8} (h : FormR u (j + 1) out) (ho : out ≠ []) : FormR u j (out ++ [UInt8.ofNat (u / 2 ^ (8 * j))]) := by
  rcases h with ⟨h, _⟩ | ⟨_, h⟩
  · exact absurd h ho
  · refine .inr ⟨by simp, ?_⟩
    rw [← h, List.append_assoc]
    rfl
theorem FormR.fin {u : Nat} {out : List UInt8} (h : FormR u 0 out) (hu : u < 2 ^ 64) (h0 : ¬ u < 248) : out = beBytes u (byteCnt u 8) := by
  rcases h with ⟨_, h⟩ | ⟨_, h⟩
  · have := byteCnt_pos u 8 (by omega) (by exact hu)
    rw [h] at this
    simp [byteCnt] at this
  · simpa [beBytes] using h
end Go.Proofs.Ytmmdkpnoncnjnaa
