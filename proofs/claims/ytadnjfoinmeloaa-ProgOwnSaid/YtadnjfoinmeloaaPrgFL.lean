/- A program's bytes are told as the program: plain laws. -/
import Derived.Test.YtadnjfoinmeloaaPrgD
namespace Go.Proofs.Ytadnjfoinmeloaa
open Go.RowKit

theorem num_at {bs pre rest : List UInt8} {u a : Nat} (h : bs = pre ++ (formL u ++ rest)) (ha : a = pre.length) (hu : u < 9223372036854775808) : rNumL bs a = .ok (u, (formL u).length) := by
  rw [h, ha]; exact rNum_form pre rest u hu
theorem bytes_at {bs pre ys rest : List UInt8} {a : Nat} (h : bs = pre ++ ((formL ys.length ++ ys) ++ rest)) (ha : a = pre.length) (hu : ys.length < 9223372036854775808) : rBytesL bs a = .ok (ys, a + (formL ys.length ++ ys).length) := by
  rw [h, ha]; exact rBytes_form pre ys rest hu
theorem code_dec {f : Fun} (h : GoodF f) (hok : ∀ i ∈ f.code, InsOk i) : decL (codeL f) = (f.code, 0) :=
  dec_enc hok (by rw [← h.enc]; rfl)
theorem readFun_form {f : Fun} (h : GoodF f) (hok : ∀ i ∈ f.code, InsOk i) {bs pre rest : List UInt8} (hbs : bs = pre ++ (funL f ++ rest)) : readFun bs pre.length = .ok f (pre.length + (funL f).length) := by
  have hb := badF_not h.bad
  have hcl := codeL_le h
  have hcd := code_dec h hok
  have r1 := num_at (bs := bs) (pre := pre) (rest := formL f.locals.toNat ++ (formL f.results.toNat ++ ((formL (codeL f).length ++ codeL f) ++ rest))) (u := f.args.toNat) (a := pre.length) (by rw [hbs]; unfold funL; simp only [List.append_assoc]) rfl (by omega)
  have r2 := num_at (bs := bs) (pre := pre ++ formL f.args.toNat) (rest := formL f.results.toNat ++ ((formL (codeL f).length ++ codeL f) ++ rest)) (u := f.locals.toNat) (a := pre.length + (formL f.args.toNat).length) (by rw [hbs]; unfold funL; simp only [List.append_assoc]) (by simp only [List.length_append]) (by omega)
  have r3 := num_at (bs := bs) (pre := pre ++ formL f.args.toNat ++ formL f.locals.toNat) (rest := (formL (codeL f).length ++ codeL f) ++ rest) (u := f.results.toNat) (a := pre.length + (formL f.args.toNat).length + (formL f.locals.toNat).length) (by rw [hbs]; unfold funL; simp only [List.append_assoc]) (by simp only [List.length_append]) (by omega)
  have r4 := bytes_at (bs := bs) (pre := pre ++ formL f.args.toNat ++ formL f.locals.toNat ++ formL f.results.toNat) (ys := codeL f) (rest := rest) (a := pre.length + (formL f.args.toNat).length + (formL f.locals.toNat).length + (formL f.results.toNat).length) (by rw [hbs]; unfold funL; simp only [List.append_assoc]) (by simp only [List.length_append]) (by omega)
  unfold readFun
  rw [r1]
  dsimp only
  rw [r2]
  dsimp only
  rw [r3]
  dsimp only
  rw [r4]
  dsimp only
  rw [hcd, if_pos rfl, Int.toNat_of_nonneg (by omega), Int.toNat_of_nonneg (by omega), Int.toNat_of_nonneg (by omega)]
  have e : pre.length + (formL f.args.toNat).length + (formL f.locals.toNat).length + (formL f.results.toNat).length + (formL (codeL f).length ++ codeL f).length = pre.length + (funL f).length := by
    unfold funL; simp only [List.length_append]; omega
  rw [e]
theorem readFuns_form {bs : List UInt8} : ∀ (l done : List Fun) (pre rest : List UInt8), (∀ f ∈ l, GoodF f) → (∀ f ∈ l, ∀ i ∈ f.code, InsOk i) → bs = pre ++ (l.flatMap funL ++ rest) → readFuns bs l.length done pre.length = .ok (done ++ l) (pre.length + (l.flatMap funL).length) := by
  intro l
  induction l with
  | nil => intro done pre rest _ _ _; simp [readFuns]
  | cons f l ih =>
    intro done pre rest hg hok hbs
    have e1 : bs = pre ++ (funL f ++ (l.flatMap funL ++ rest)) := by rw [hbs, List.flatMap_cons, List.append_assoc]
    have h1 := readFun_form (hg f (List.mem_cons_self ..)) (hok f (List.mem_cons_self ..)) e1
    have h2 := ih (done ++ [f]) (pre ++ funL f) rest (fun g hgm => hg g (List.mem_cons_of_mem _ hgm)) (fun g hgm => hok g (List.mem_cons_of_mem _ hgm)) (by rw [e1, List.append_assoc])
    rw [List.length_append] at h2
    rw [List.length_cons]
    unfold readFuns
    rw [h1]
    dsimp only
    rw [h2, List.append_assoc, List.flatMap_cons, List.length_append, Nat.add_assoc]
    rfl
theorem readPrg_form {p : Prg} (hc : checkL p = 0) (hok : ∀ f ∈ p.fs, ∀ i ∈ f.code, InsOk i) : readPrg (progL p) = .ok p (progL p).length := by
  obtain ⟨hb, hg⟩ := (checkL_ok p).1 hc
  have hh := badH_not hb
  have r1 := num_at (bs := progL p) (pre := []) (rest := formL p.mem.toNat ++ ((formL p.data.length ++ p.data) ++ (formL p.fs.length ++ p.fs.flatMap funL))) (u := 2) (a := 0) (by unfold progL headL; simp only [List.append_assoc, List.nil_append]) rfl (by omega)
  have r2 := num_at (bs := progL p) (pre := formL 2) (rest := (formL p.data.length ++ p.data) ++ (formL p.fs.length ++ p.fs.flatMap funL)) (u := p.mem.toNat) (a := 0 + (formL 2).length) (by unfold progL headL; simp only [List.append_assoc]) (by omega) (by omega)
  have r3 := bytes_at (bs := progL p) (pre := formL 2 ++ formL p.mem.toNat) (ys := p.data) (rest := formL p.fs.length ++ p.fs.flatMap funL) (a := 0 + (formL 2).length + (formL p.mem.toNat).length) (by unfold progL headL; simp only [List.append_assoc]) (by simp only [List.length_append]; omega) (by omega)
  have r4 := num_at (bs := progL p) (pre := formL 2 ++ formL p.mem.toNat ++ (formL p.data.length ++ p.data)) (rest := p.fs.flatMap funL) (u := p.fs.length) (a := 0 + (formL 2).length + (formL p.mem.toNat).length + (formL p.data.length ++ p.data).length) (by unfold progL headL; simp only [List.append_assoc]) (by simp only [List.length_append]; omega) (by omega)
  have r5 := readFuns_form (bs := progL p) p.fs [] (headL p) [] hg hok (by unfold progL; rw [List.append_nil])
  have e5 : 0 + (formL 2).length + (formL p.mem.toNat).length + (formL p.data.length ++ p.data).length + (formL p.fs.length).length = (headL p).length := by unfold headL; simp only [List.length_append]; omega
  unfold readPrg
  rw [r1]
  dsimp only
  rw [if_pos rfl, r2]
  dsimp only
  rw [r3]
  dsimp only
  rw [r4]
  dsimp only
  rw [if_neg (by omega), e5, r5]
  show Res.ok _ _ = _
  rw [Int.toNat_of_nonneg (by omega), List.nil_append]
  have e6 : (headL p).length + (p.fs.flatMap funL).length = (progL p).length := by unfold progL; rw [List.length_append]
  rw [e6]
theorem decP_enc {p : Prg} {ys : List UInt8} (hok : ∀ f ∈ p.fs, ∀ i ∈ f.code, InsOk i) (h : encP p = (ys, 0)) : decP ys = (p, 0) := by
  obtain ⟨hc, rfl, hl⟩ := encP_ok h
  unfold decP
  rw [if_neg (by omega), readPrg_form hc hok]
  dsimp only
  rw [if_pos rfl, if_pos hc]
end Go.Proofs.Ytadnjfoinmeloaa
