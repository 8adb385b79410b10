/- Facts of the loaded program's types. -/
import Derived.Test.YtmmdkpnoncnjnaaChecked
import Derived.Test.YtmmdkpnoncnjnaaBase
namespace Go.Proofs.Ytmmdkpnoncnjnaa
theorem byte_info : (Try.prog.info? 5).map (fun i => (i.zero, i.size, i.bytes)) = some (some (.int .u8 0), 1, 1) := by kernel_rfl
theorem elem_of {P : Program} {t e : TypeId} {z : Value} {size bytes : Nat} (ht : P.underlying t = some (.slice e)) (h : (P.info? e).map (fun i => (i.zero, i.size, i.bytes)) = some (some z, size, bytes))
    (hz : z.cells.size = size) (hs : 0 < size) : Elem P t e size bytes := by
  obtain ⟨i, hi, h1, h2, h3⟩ := info_parts h
  exact ⟨ht, ⟨i, z, hi, h1, h2, h3, hz⟩, hs⟩
theorem eByte : Elem Try.prog 32 5 1 1 := elem_of Try.underlying32 byte_info rfl (by decide)
/-- A slice of bytes of the call's own. -/
abbrev OwnB (w : World) (base : Nat) (A : Option Addr) (n c : Nat) (xs : List UInt8) : Prop := Own w base 5 1 A n c (xs.map bv)
theorem OwnB.len {w : World} {base n c : Nat} {A : Option Addr} {xs : List UInt8} (h : OwnB w base A n c xs) : xs.length = n := by
  have := h.1
  simpa using this
theorem OwnB.app {w : World} {base n m c : Nat} {A : Option Addr} {xs ys : List UInt8} (h : Own w base 5 1 A (n + m) c (xs.map bv ++ ys.map bv)) (hn : xs.length = n) (hm : ys.length = m) : OwnB w base A (xs ++ ys).length c (xs ++ ys) := by
  subst hn hm
  rw [List.length_append]
  show Own w base 5 1 A _ c ((xs ++ ys).map bv)
  rw [List.map_append]
  exact h
end Go.Proofs.Ytmmdkpnoncnjnaa
