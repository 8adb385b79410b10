/- The law OpWords, its walk. -/
import Derived.Test.YtmmdkpnoncnjnaaOpD
namespace Go.Proofs.Ytmmdkpnoncnjnaa
open Go.RowKit
attribute [local go_sem] rowVal

/-- A name of small letters and digits, a letter first. -/
def GoodName (s : ByteArray) : Prop := 0 < s.size ∧ ∀ k (h : k < s.size), (97 ≤ s[k].toNat ∧ s[k].toNat ≤ 122) ∨ (0 < k ∧ 48 ≤ s[k].toNat ∧ s[k].toNat ≤ 57)

theorem letters_yes (s : ByteArray) (w : World) (hs : s.size ≤ 1000) (h : GoodName s) :
    Calls Try.prog 12 #[.string s] w fun e w' => e = .returned (.bool true) ∧ w = w' := by
  obtain ⟨h0, hall⟩ := h
  have Hall := Lib.hid hall
  clear hall
  go_enter Try.func12, Try.ntmps12
  go_wp2
  go_loop [3] (fun i => ∃ k : Nat, k ≤ s.size ∧ i = .int .i64 k) (fun i => s.size - (intOf i).toNat)
  case atStart => exact ⟨0, Nat.zero_le _, rfl⟩
  case round =>
    obtain ⟨k, hk, rfl⟩ := hrel
    by_cases hlt : k < s.size
    · rcases Hall.out k hlt with ⟨h1, h2⟩ | ⟨h1, h2, h3⟩
      · have g1 : (97 : Int) ≤ (s[k].toNat : Int) := by omega
        have g2 : (s[k].toNat : Int) ≤ 122 := by omega
        clear h1 h2
        go_wp2
        exact ⟨⟨k + 1, by omega, by go_num⟩, by simp [intOf]; omega⟩
      · have g1 : (s[k].toNat : Int) < 97 := by omega
        have g2 : (48 : Int) ≤ (s[k].toNat : Int) := by omega
        have g3 : (s[k].toNat : Int) ≤ 57 := by omega
        have g4 : ((k : Int) == 0) = false := by simp; omega
        clear h1 h2 h3
        go_wp2
        exact ⟨⟨k + 1, by omega, by go_num⟩, by simp [intOf]; omega⟩
    · go_wp2
      go_ret
      exact ⟨rfl, rfl⟩

theorem of_ok (i : Nat) (r : List UInt8 × Int × Int × Int) (w : World) (h : rowAt shapeTab i = (r, true)) :
    Calls Try.prog 10 #[.int .i64 i] w fun e w' => e = .returned (.tuple #[.agg #[.string ⟨r.1.toArray⟩, .int .i64 r.2.1, .int .i64 r.2.2.1, .int .i64 r.2.2.2], .bool true]) ∧ Below w.heap.size w w' :=
  (of_any i w).mono fun e w' ⟨he, hb⟩ => ⟨by rw [he, h]; rfl, hb⟩
theorem sys_ok (i : Nat) (r : List UInt8 × Int × Int × Int) (w : World) (h : rowAt callTab i = (r, true)) :
    Calls Try.prog 13 #[.int .i64 i] w fun e w' => e = .returned (.tuple #[.agg #[.string ⟨r.1.toArray⟩, .int .i64 r.2.1, .int .i64 r.2.2.1, .int .i64 r.2.2.2], .bool true]) ∧ Below w.heap.size w w' :=
  (sys_any i w).mono fun e w' ⟨he, hb⟩ => ⟨by rw [he, h]; rfl, hb⟩
theorem toList_mk (l : List UInt8) : (ByteArray.mk l.toArray).toList = l := by rw [ByteArray.toList_eq]
theorem named_ok (i : Nat) (l : List UInt8) (w : World) (h : placeFrom l shapeTab 0 = ((i : Int), true)) :
    Calls Try.prog 11 #[.string ⟨l.toArray⟩] w fun e w' => e = .returned (.tuple #[.int .i64 i, .bool true]) ∧ Below w.heap.size w w' :=
  (named_any _ w).mono fun e w' ⟨he, hb⟩ => ⟨by rw [he, toList_mk, h], hb⟩
theorem sysNamed_ok (i : Nat) (l : List UInt8) (w : World) (h : placeFrom l callTab 0 = ((i : Int), true)) :
    Calls Try.prog 14 #[.string ⟨l.toArray⟩] w fun e w' => e = .returned (.tuple #[.int .i64 i, .bool true]) ∧ Below w.heap.size w w' :=
  (sysNamed_any _ w).mono fun e w' ⟨he, hb⟩ => ⟨by rw [he, toList_mk, h], hb⟩

def goodB (l : List UInt8) : Bool := (0 < l.length && l.length ≤ 1000) && (List.range l.length).all fun k => (97 ≤ (l.getD k 0).toNat && (l.getD k 0).toNat ≤ 122) || (0 < k && 48 ≤ (l.getD k 0).toNat && (l.getD k 0).toNat ≤ 57)
theorem good_of (l : List UInt8) (h : goodB l = true) : GoodName ⟨l.toArray⟩ ∧ (ByteArray.mk l.toArray).size ≤ 1000 := by
  simp only [goodB, Bool.and_eq_true, decide_eq_true_eq, List.all_eq_true, List.mem_range, Bool.or_eq_true] at h
  obtain ⟨⟨h0, h1⟩, h2⟩ := h
  have hs : (ByteArray.mk l.toArray).size = l.length := by simp [ByteArray.size]
  refine ⟨⟨by omega, fun k hk => ?_⟩, by omega⟩
  have hk' : k < l.length := by omega
  have he : (ByteArray.mk l.toArray)[k] = l.getD k 0 := by
    show l.toArray[k] = _
    simp [List.getD_eq_getElem?_getD, List.getElem?_eq_getElem hk']
  rw [he]
  rcases h2 k hk' with h | ⟨⟨h, h'⟩, h''⟩
  · exact .inl h
  · exact .inr ⟨h, h', h''⟩
theorem letters_ok (l : List UInt8) (w : World) (h : goodB l = true) : Calls Try.prog 12 #[.string ⟨l.toArray⟩] w fun e w' => e = .returned (.bool true) ∧ w = w' :=
  letters_yes _ w (good_of l h).2 (good_of l h).1

/-- What the law asks of a table, row by row. -/
def tabGood (t : List (List UInt8 × Int × Int × Int)) : Bool := (List.range t.length).all fun i =>
  match t[i]? with
  | none => false
  | some r => placeFrom r.1 t 0 == ((i : Int), true) && goodB r.1 && (List.range i).all fun j => match t[j]? with | none => false | some r' => (r.1 == r'.1) == false
theorem tabGood_row (t : List (List UInt8 × Int × Int × Int)) (h : tabGood t = true) (i : Nat) (hi : i < t.length) :
    ∃ r, rowAt t i = (r, true) ∧ placeFrom r.1 t 0 = ((i : Int), true) ∧ goodB r.1 = true ∧ ∀ j, j < i → ∃ r', rowAt t j = (r', true) ∧ (r.1 == r'.1) = false := by
  simp only [tabGood, List.all_eq_true, List.mem_range] at h
  have h1 := h i hi
  have hr : t[i]? = some t[i] := List.getElem?_eq_getElem hi
  rw [hr] at h1
  simp only [Bool.and_eq_true, List.all_eq_true, List.mem_range] at h1
  obtain ⟨⟨ha, hb⟩, hc⟩ := h1
  refine ⟨t[i], by simp [rowAt, hr], by simpa using ha, hb, fun j hj => ?_⟩
  have hj' : t[j]? = some t[j] := List.getElem?_eq_getElem (by omega)
  have h2 := hc j hj
  rw [hj'] at h2
  exact ⟨t[j], by simp [rowAt, hj'], by simpa using h2⟩
theorem shape_good : tabGood shapeTab = true := by decide +kernel
theorem call_good : tabGood callTab = true := by decide +kernel
end Go.Proofs.Ytmmdkpnoncnjnaa
