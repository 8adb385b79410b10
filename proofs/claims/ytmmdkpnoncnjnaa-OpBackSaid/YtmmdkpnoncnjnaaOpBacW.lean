/- The walk of the law OpBack (printed by gen_opback.py). -/
import Derived.Test.YtmmdkpnoncnjnaaInsJ
import Derived.Test.YtmmdkpnoncnjnaaDecK
import Derived.Test.YtmmdkpnoncnjnaaRegK
import Derived.Deep.QuietTactic
import Derived.BigQuiet
namespace Go.Proofs.Ytmmdkpnoncnjnaa
open Go.RowKit

set_option maxRecDepth 100000 in
set_option maxHeartbeats 4000000 in
theorem opBack_walk (A0 A1 A2 : Option Addr) (c0 c1 c2 : Nat) (l m : List Ins) (bs : List UInt8) (w : World) (hi : RV w A0 (l.flatMap insCells) ∧ (∀ i ∈ l, InsOk i) ∧ (A0 = none → l.length = 0 ∧ c0 = 0)) (hl : l.length ≤ 8796093021952) (hj : RV w A1 (m.flatMap insCells) ∧ (∀ i ∈ m, InsOk i) ∧ (A1 = none → m.length = 0 ∧ c1 = 0)) (hm : m.length ≤ 8796093021952) (hS : Sl w ⟨A2, c2, bs⟩) (hb : bs.length ≤ 140737488351232) :
    Calls Try.prog 7 #[.slice A0 l.length c0, .slice A1 m.length c1, .slice A2 bs.length c2] w fun e w' => e = .returned (.bool true) ∧ Below w.heap.size w w' := by
  have HS := Lib.hid hS
  have HL := Lib.hid hi
  have HM := Lib.hid hj
  clear hS hi hj
  obtain ⟨p, f1, hen⟩ : ∃ p f, encL l = (p, f) := ⟨_, _, rfl⟩
  obtain ⟨q, f2, hem⟩ : ∃ q f, encL m = (q, f) := ⟨_, _, rfl⟩
  have Hen := Lib.hid hen
  have Hem := Lib.hid hem
  clear hen hem
  go_enter Try.func7, Try.ntmps7
  go_wp2_with fail
  refine (known_any _).mono ?_
  rintro e w1 ⟨rfl, hb1⟩
  have hz1 := hb1.size
  have Hb1 := Lib.hid hb1
  have henc := encode_any A0 c0 l w1 (HL.out.1.below hb1) HL.out.2.1 (by unfold maxLen; omega)
  rw [Hen.out] at henc
  have Henc := Lib.hid henc
  clear hb1 henc
  go_wp2_with fail
  refine Henc.out.mono ?_
  intro e w2 hpost
  obtain ⟨AP, cP, rfl, hownP, hb2⟩ := hpost
  have hz2 := hb2.size
  have HB2 := Lib.hid (Hb1.out.trans (hb2.mono hz1))
  have henc := encode_any A1 c1 m w2 (HM.out.1.below HB2.out) HM.out.2.1 (by unfold maxLen; omega)
  rw [Hem.out] at henc
  have HownP2 := Lib.hid hownP
  have Henc2 := Lib.hid henc
  clear hb2 hownP henc Henc
  go_wp2_with fail
  refine Henc2.out.mono ?_
  intro e w3 hpost
  obtain ⟨AQ, cQ, rfl, hownQ, hb3⟩ := hpost
  have hz3 := hb3.size
  have HB3 := Lib.hid (HB2.out.trans (hb3.mono HB2.out.size))
  have HownP := Lib.hid (Own.below HownP2.out hb3 (Nat.le_refl _))
  have HownQ := Lib.hid hownQ
  clear hb3 hownQ Henc2 HownP2
  dsimp only at *
  by_cases h1 : f1 = 0
  · subst h1
    obtain ⟨hl2, hpe, hlg⟩ := encL_ok Hen.out
    have hpl : p.length ≤ 40960 := by rw [hpe]; have := flat_le l hlg; omega
    clear hpe hlg
    have hdp := decode_any AP cP p w3 (Sl.of_own HownP.out) (by omega)
    rw [dec_enc HL.out.2.1 Hen.out] at hdp
    have Hdp := Lib.hid hdp
    clear hdp
    go_wp2_with fail
    refine Hdp.out.mono ?_
    intro e w4 hpost
    obtain ⟨AX, cX, rfl, hownX, hb4⟩ := hpost
    have hz4 := hb4.size
    have HB4 := Lib.hid (HB3.out.trans (hb4.mono HB3.out.size))
    have HownP4 := Lib.hid (Own.below HownP.out hb4 (Nat.le_refl _))
    have HownQ4 := Lib.hid (Own.below HownQ.out hb4 (Nat.le_refl _))
    have hsx := same_ins AX A0 cX c0 l l w4 (RV.of_own hownX) (HL.out.1.below HB4.out) (by omega) (by omega)
    rw [sameB_self] at hsx
    have Hsx := Lib.hid hsx
    clear hownX hb4 hsx Hdp HownP HownQ
    dsimp only at *
    go_wp2_with fail
    refine Hsx.out.mono ?_
    rintro e w5 ⟨rfl, k5, hw5⟩
    have hb5 : Below w4.heap.size w4 w5 := by rw [hw5]; exact below_drewN (Below.refl _ _) k5
    have HB5 := Lib.hid (HB4.out.trans (hb5.mono HB4.out.size))
    have HownP5 := Lib.hid (Own.below HownP4.out hb5 (Nat.le_refl _))
    have HownQ5 := Lib.hid (Own.below HownQ4.out hb5 (Nat.le_refl _))
    have hz5 := hb5.size
    clear hw5 hb5 HownP4 HownQ4 Hsx
    by_cases h2 : f2 = 0
    · subst h2
      obtain ⟨hm2, hqe, hmg⟩ := encL_ok Hem.out
      clear hqe hmg
      have hcp : ∀ k, (convert 32 9 (.slice AP p.length cP)).run Try.prog (w5.drewN k) = .ok (.string ⟨p.toArray⟩) (w5.drewN k) := fun k => run_bytesStr (P := Try.prog) (RV.below (RV.of_own HownP5.out) (below_drewN (Below.refl _ _) k)) Try.underlying32 Try.underlying5 Try.underlying9
      have hcq : ∀ k, (convert 32 9 (.slice AQ q.length cQ)).run Try.prog (w5.drewN k) = .ok (.string ⟨q.toArray⟩) (w5.drewN k) := fun k => run_bytesStr (P := Try.prog) (RV.below (RV.of_own HownQ5.out) (below_drewN (Below.refl _ _) k)) Try.underlying32 Try.underlying5 Try.underlying9
      have hss : ∀ k, Calls Try.prog 24 #[.slice A0 l.length c0, .slice A1 m.length c1] (w5.drewN k) fun e w' => e = .returned (.bool (sameB l m)) ∧ ∃ n, w' = (w5.drewN k).drewN n := fun k => same_ins A0 A1 c0 c1 l m _ ((HL.out.1.below HB5.out).below (below_drewN (Below.refl _ _) k)) ((HM.out.1.below HB5.out).below (below_drewN (Below.refl _ _) k)) (by omega) (by omega)
      have hpq : (p == q) = sameB l m := by
        by_cases hpq : p = q
        · subst hpq
          have e := enc_inj HL.out.2.1 HM.out.2.1 Hen.out Hem.out
          subst e
          rw [sameB_self]
          simp
        · have h3 : sameB l m = false := by
            cases hs : sameB l m with
            | false => rfl
            | true =>
              have e := (sameB_iff l m).1 hs
              subst e
              have := Hen.out.symm.trans Hem.out
              injection this with e2
              exact absurd e2 hpq
          rw [h3, beq_eq_false_iff_ne]
          exact hpq
      obtain ⟨s, hs⟩ : ∃ s, s = sameB l m := ⟨_, rfl⟩
      rw [← hs] at hpq hss
      have Hss := Lib.hid hss
      clear hs hss
      go_wp2_with fail
      try simp only [Act.put]
      refine region_quiet (fun w' => ∃ k, w' = w5.drewN k) (by kernel_rfl) (by kernel_rfl) ⟨1, rfl⟩ ?_
      repeat (go_big_quiet_step (with_reducible exact Calls.quiet_of (Hss.out _)))
      refine wpQuiet_nil ?_
      rintro _ ⟨k6, rfl⟩
      go_wp2_with (refine wpList_at 60 rfl ?_; refine wp_stop ?_)
      refine ⟨?_⟩
      obtain ⟨w6, hw6⟩ : ∃ w6, w6 = w5.drewN k6 := ⟨_, rfl⟩
      rw [← hw6]
      have hb6 : Below w5.heap.size w5 w6 := by rw [hw6]; exact below_drewN (Below.refl _ _) k6
      have HB6 := Lib.hid (HB5.out.trans (hb6.mono HB5.out.size))
      have HownP6 := Lib.hid (Own.below HownP5.out hb6 (Nat.le_refl _))
      have HownQ6 := Lib.hid (Own.below HownQ5.out hb6 (Nat.le_refl _))
      clear hw6 hb6 HownP5 HownQ5 Hss hcp hcq hpq
      go_wp2_with (refine wpList_at 62 rfl ?_; refine wp_stop ?_)
      refine ⟨?_⟩
      obtain ⟨w7, hw7⟩ : ∃ w7, w7 = w6.alloc (.cells #[] 48) := ⟨_, rfl⟩
      rw [← hw7]
      have hb67 : Below w6.heap.size w6 w7 := by rw [hw7]; exact (Below.refl _ _).alloc (Nat.le_refl _) _
      have hown7 : Own w7 w6.heap.size 48 2 (some ⟨w6.heap.size, 0, none⟩) 0 0 [] := by rw [hw7]; exact Own.lit w6 48 2 0 #[] (Nat.le_refl _) (Nat.zero_le _) rfl
      have hz67 := hb67.size
      have HB7 := Lib.hid (HB6.out.trans (hb67.mono HB6.out.size))
      have HownP7 := Lib.hid (Own.below HownP6.out hb67 (Nat.le_refl _))
      have HownQ7 := Lib.hid (Own.below HownQ6.out hb67 (Nat.le_refl _))
      have hPlt := fun b o h => (Own.lt HownP6.out b o h).2.1
      have hQlt := fun b o h => (Own.lt HownQ6.out b o h).2.1
      clear hw7 hb67 HownP6 HownQ6
      refine wpList_app rfl (.tmp 60) (.tmp 61) eIns rfl rfl hown7 (m := l.length) (us := l.flatMap insCells) rfl (HL.out.1.below HB7.out) (insCells_len l) (ins_one l) (by unfold maxLen; omega) (by omega) hz67 HL.out.2.2 ?_
      intro A8 c8 w8 hown8 hg8 _
      rw [Nat.zero_add, List.nil_append] at hown8
      rw [Nat.zero_add]
      have hO8 : Only (fun b => b = w6.heap.size) w7 w8 := Only.of_grown hg8 fun k e => by injection e with e; exact e.symm
      have hz78 := hO8.size
      have HB8 := Lib.hid (HB7.out.trans (hO8.below (B := w.heap.size) (by have := HB6.out.size; omega) fun k hk e => by have := HB6.out.size; omega))
      have HownP8 := Lib.hid (Own.only HownP7.out hO8 fun b o h e => by have := hPlt b o h; omega)
      have HownQ8 := Lib.hid (Own.only HownQ7.out hO8 fun b o h e => by have := hQlt b o h; omega)
      have Hown8 := Lib.hid hown8
      clear hown8 hO8 hg8 hown7 HownP7 HownQ7
      go_wp2_with (refine wpList_at 64 rfl ?_; refine wp_stop ?_)
      refine ⟨?_⟩
      refine wpList_app rfl (.tmp 62) (.tmp 63) eIns rfl rfl Hown8.out (m := m.length) (us := m.flatMap insCells) rfl (HM.out.1.below HB8.out) (insCells_len m) (ins_one m) (by unfold maxLen; omega) (by omega) (by omega) HM.out.2.2 ?_
      intro A9 c9 w9 hown9 hg9 _
      have hO9 : Only (fun b => A8.map (·.block) = some b) w8 w9 := Only.of_grown hg9 fun k e => e
      have hz89 := hO9.size
      have hA8 := fun b (h : A8.map (·.block) = some b) => (Own.row Hown8.out b h).1
      have HB9 := Lib.hid (HB8.out.trans (hO9.below (B := w.heap.size) (by have := HB6.out.size; omega) fun k hk e => by have := hA8 k e; have := HB6.out.size; omega))
      have HownP9 := Lib.hid (Own.only HownP8.out hO9 fun b o h e => by have := hPlt b o h; have := hA8 b e; omega)
      have HownQ9 := Lib.hid (Own.only HownQ8.out hO9 fun b o h e => by have := hQlt b o h; have := hA8 b e; omega)
      have henb := encode_any A9 c9 (l ++ m) w9 (by rw [List.flatMap_append]; exact RV.of_own hown9) (fun i hi => (List.mem_append.1 hi).elim (HL.out.2.1 i) (HM.out.2.1 i)) (by rw [List.length_append]; unfold maxLen; omega)
      rw [List.length_append] at henb
      obtain ⟨r, hr⟩ : ∃ r, r = p ++ q := ⟨_, rfl⟩
      have hcat : (⟨p.toArray⟩ : ByteArray) ++ ⟨q.toArray⟩ = ⟨r.toArray⟩ := by
        rw [hr]
        apply ByteArray.ext
        simp
      by_cases hbig : (l ++ m).length ≤ 4096
      · rw [enc_both Hen.out Hem.out hbig, ← hr] at henb
        rw [List.length_append] at hbig
        have g5 : (l.length : Int) + (m.length : Int) ≤ 4096 := by omega
        have Henb := Lib.hid henb
        have Hcat := Lib.hid hcat
        clear henb hr hown9 hg9 hO9 HownP8 HownQ8 Hown8 hcat
        go_wp2_with fail
        refine Henb.out.mono ?_
        intro e w10 hpost
        obtain ⟨AR, cR, rfl, hownR, hb10⟩ := hpost
        have HB10 := Lib.hid (HB9.out.trans (hb10.mono HB9.out.size))
        have HrP := Lib.hid (RV.of_own (Own.below HownP9.out hb10 (Nat.le_refl _)))
        have HrQ := Lib.hid (RV.of_own (Own.below HownQ9.out hb10 (Nat.le_refl _)))
        have HrR := Lib.hid (RV.of_own hownR)
        have hcat := Hcat.out
        have hsz : (⟨p.toArray⟩ : ByteArray).size + (⟨q.toArray⟩ : ByteArray).size ≤ 9223372036854775807 := by simp only [ByteArray.size, List.size_toArray]; have := (encL_ok Hem.out).2; have h7 := flat_le m this.2; rw [← this.1] at h7; omega
        have hra : p.toArray ++ q.toArray = r.toArray := by have := congrArg ByteArray.data hcat; simpa using this
        simp only [ByteArray.size, List.size_toArray] at hsz
        clear hownR hb10 Henb HownP9 HownQ9
        dsimp only at *
        go_wp2_with (first
          | (refine wpList_at 78 rfl ?_; refine wpList_bytesStrG rfl (.tmp 77) (A := AR) (c := cR) (ys := r) rfl rfl HrR.out Try.underlying32 Try.underlying5 Try.underlying9 ?_)
          | (refine wpList_at 80 rfl ?_; refine wpList_bytesStrG rfl (.tmp 79) (A := AP) (c := cP) (ys := p) rfl rfl HrP.out Try.underlying32 Try.underlying5 Try.underlying9 ?_)
          | (refine wpList_at 82 rfl ?_; refine wpList_bytesStrG rfl (.tmp 81) (A := AQ) (c := cQ) (ys := q) rfl rfl HrQ.out Try.underlying32 Try.underlying5 Try.underlying9 ?_))
        have hdb := decode_any A2 c2 bs w10 (HS.out.below HB10.out) (by omega)
        rcases dec_back bs with ⟨h1, h2, h3, h4⟩ | ⟨h1, h2⟩
        · obtain ⟨zs, f3, hd3⟩ : ∃ zs f, decL bs = (zs, f) := ⟨_, _, rfl⟩
          rw [hd3] at hdb h1 h2 h3 h4
          dsimp only at h1 h2 h3 h4
          subst h1
          have Hdb := Lib.hid hdb
          have H2 := Lib.hid h2
          have H3 := Lib.hid h3
          clear hdb h2 h3 hd3
          go_wp2_with fail
          refine Hdb.out.mono ?_
          intro e v1 hpost
          obtain ⟨B1, d1, rfl, hown1, hb1⟩ := hpost
          have hzv1 := hb1.size
          have HV1 := Lib.hid (HB10.out.trans (hb1.mono HB10.out.size))
          have henc := encode_any B1 d1 zs v1 (RV.of_own hown1) (fun i hi => (H3.out i hi).2) (by unfold maxLen; omega)
          rw [H2.out] at henc
          have Henc := Lib.hid henc
          clear henc hown1 hb1 Hdb
          go_wp2_with fail
          refine Henc.out.mono ?_
          intro e v2 hpost
          obtain ⟨B2, d2, rfl, hown2, hb2⟩ := hpost
          have HV2 := Lib.hid (HV1.out.trans (hb2.mono HV1.out.size))
          have Hr2 := Lib.hid (RV.of_own hown2)
          have Hrb := Lib.hid (HS.out.below HV2.out).rv
          clear hb2 hown2 Henc
          go_wp2_with (first
            | (refine wpList_at 106 rfl ?_; refine wpList_bytesStrG rfl (.tmp 105) (A := B2) (c := d2) (ys := bs) rfl rfl Hr2.out Try.underlying32 Try.underlying5 Try.underlying9 ?_)
            | (refine wpList_at 108 rfl ?_; refine wpList_bytesStrG rfl (.tmp 107) (A := A2) (c := c2) (ys := bs) rfl rfl Hrb.out Try.underlying32 Try.underlying5 Try.underlying9 ?_))
          go_ret
          exact ⟨rfl, HV2.out⟩
        · obtain ⟨zs, f3, hd3⟩ : ∃ zs f, decL bs = (zs, f) := ⟨_, _, rfl⟩
          rw [hd3] at hdb h1 h2
          dsimp only at h1 h2
          subst h2
          have Hdb := Lib.hid hdb
          clear hdb hd3
          go_wp2_with fail
          refine Hdb.out.mono ?_
          intro e v1 hpost
          obtain ⟨B1, d1, rfl, hown1, hb1⟩ := hpost
          have HV1 := Lib.hid (HB10.out.trans (hb1.mono HB10.out.size))
          have hne : ¬ f3 = 0 := h1
          clear hown1 hb1 Hdb h1
          go_wp2_with fail
          go_ret
          exact ⟨rfl, HV1.out⟩
      · have hbe : encL (l ++ m) = ([], 2) := by unfold encL; rw [if_pos (by omega)]
        rw [hbe] at henb
        rw [List.length_append] at hbig
        have g5 : ¬ (l.length : Int) + (m.length : Int) ≤ 4096 := by omega
        have Henb := Lib.hid henb
        clear henb hr hcat hown9 hg9 hO9 HownP8 HownQ8 Hown8 hbe
        go_wp2_with fail
        refine Henb.out.mono ?_
        intro e w10 hpost
        obtain ⟨AR, cR, rfl, hownR, hb10⟩ := hpost
        have HB10 := Lib.hid (HB9.out.trans (hb10.mono HB9.out.size))
        clear hownR hb10 Henb
        dsimp only at *
        have hdb := decode_any A2 c2 bs w10 (HS.out.below HB10.out) (by omega)
        rcases dec_back bs with ⟨h1, h2, h3, h4⟩ | ⟨h1, h2⟩
        · obtain ⟨zs, f3, hd3⟩ : ∃ zs f, decL bs = (zs, f) := ⟨_, _, rfl⟩
          rw [hd3] at hdb h1 h2 h3 h4
          dsimp only at h1 h2 h3 h4
          subst h1
          have Hdb := Lib.hid hdb
          have H2 := Lib.hid h2
          have H3 := Lib.hid h3
          clear hdb h2 h3 hd3
          go_wp2_with fail
          refine Hdb.out.mono ?_
          intro e v1 hpost
          obtain ⟨B1, d1, rfl, hown1, hb1⟩ := hpost
          have hzv1 := hb1.size
          have HV1 := Lib.hid (HB10.out.trans (hb1.mono HB10.out.size))
          have henc := encode_any B1 d1 zs v1 (RV.of_own hown1) (fun i hi => (H3.out i hi).2) (by unfold maxLen; omega)
          rw [H2.out] at henc
          have Henc := Lib.hid henc
          clear henc hown1 hb1 Hdb
          go_wp2_with fail
          refine Henc.out.mono ?_
          intro e v2 hpost
          obtain ⟨B2, d2, rfl, hown2, hb2⟩ := hpost
          have HV2 := Lib.hid (HV1.out.trans (hb2.mono HV1.out.size))
          have Hr2 := Lib.hid (RV.of_own hown2)
          have Hrb := Lib.hid (HS.out.below HV2.out).rv
          clear hb2 hown2 Henc
          go_wp2_with (first
            | (refine wpList_at 106 rfl ?_; refine wpList_bytesStrG rfl (.tmp 105) (A := B2) (c := d2) (ys := bs) rfl rfl Hr2.out Try.underlying32 Try.underlying5 Try.underlying9 ?_)
            | (refine wpList_at 108 rfl ?_; refine wpList_bytesStrG rfl (.tmp 107) (A := A2) (c := c2) (ys := bs) rfl rfl Hrb.out Try.underlying32 Try.underlying5 Try.underlying9 ?_))
          go_ret
          exact ⟨rfl, HV2.out⟩
        · obtain ⟨zs, f3, hd3⟩ : ∃ zs f, decL bs = (zs, f) := ⟨_, _, rfl⟩
          rw [hd3] at hdb h1 h2
          dsimp only at h1 h2
          subst h2
          have Hdb := Lib.hid hdb
          clear hdb hd3
          go_wp2_with fail
          refine Hdb.out.mono ?_
          intro e v1 hpost
          obtain ⟨B1, d1, rfl, hown1, hb1⟩ := hpost
          have HV1 := Lib.hid (HB10.out.trans (hb1.mono HB10.out.size))
          have hne : ¬ f3 = 0 := h1
          clear hown1 hb1 Hdb h1
          go_wp2_with fail
          go_ret
          exact ⟨rfl, HV1.out⟩
    · have hne2 : ¬ f2 = 0 := h2
      have hdb := decode_any A2 c2 bs w5 (HS.out.below HB5.out) (by omega)
      rcases dec_back bs with ⟨h1, h2, h3, h4⟩ | ⟨h1, h2⟩
      · obtain ⟨zs, f3, hd3⟩ : ∃ zs f, decL bs = (zs, f) := ⟨_, _, rfl⟩
        rw [hd3] at hdb h1 h2 h3 h4
        dsimp only at h1 h2 h3 h4
        subst h1
        have Hdb := Lib.hid hdb
        have H2 := Lib.hid h2
        have H3 := Lib.hid h3
        clear hdb h2 h3 hd3
        go_wp2_with fail
        refine Hdb.out.mono ?_
        intro e v1 hpost
        obtain ⟨B1, d1, rfl, hown1, hb1⟩ := hpost
        have hzv1 := hb1.size
        have HV1 := Lib.hid (HB5.out.trans (hb1.mono HB5.out.size))
        have henc := encode_any B1 d1 zs v1 (RV.of_own hown1) (fun i hi => (H3.out i hi).2) (by unfold maxLen; omega)
        rw [H2.out] at henc
        have Henc := Lib.hid henc
        clear henc hown1 hb1 Hdb
        go_wp2_with fail
        refine Henc.out.mono ?_
        intro e v2 hpost
        obtain ⟨B2, d2, rfl, hown2, hb2⟩ := hpost
        have HV2 := Lib.hid (HV1.out.trans (hb2.mono HV1.out.size))
        have Hr2 := Lib.hid (RV.of_own hown2)
        have Hrb := Lib.hid (HS.out.below HV2.out).rv
        clear hb2 hown2 Henc
        go_wp2_with (first
          | (refine wpList_at 106 rfl ?_; refine wpList_bytesStrG rfl (.tmp 105) (A := B2) (c := d2) (ys := bs) rfl rfl Hr2.out Try.underlying32 Try.underlying5 Try.underlying9 ?_)
          | (refine wpList_at 108 rfl ?_; refine wpList_bytesStrG rfl (.tmp 107) (A := A2) (c := c2) (ys := bs) rfl rfl Hrb.out Try.underlying32 Try.underlying5 Try.underlying9 ?_))
        go_ret
        exact ⟨rfl, HV2.out⟩
      · obtain ⟨zs, f3, hd3⟩ : ∃ zs f, decL bs = (zs, f) := ⟨_, _, rfl⟩
        rw [hd3] at hdb h1 h2
        dsimp only at h1 h2
        subst h2
        have Hdb := Lib.hid hdb
        clear hdb hd3
        go_wp2_with fail
        refine Hdb.out.mono ?_
        intro e v1 hpost
        obtain ⟨B1, d1, rfl, hown1, hb1⟩ := hpost
        have HV1 := Lib.hid (HB5.out.trans (hb1.mono HB5.out.size))
        have hne : ¬ f3 = 0 := h1
        clear hown1 hb1 Hdb h1
        go_wp2_with fail
        go_ret
        exact ⟨rfl, HV1.out⟩
  · have hne : ¬ f1 = 0 := h1
    have hdb := decode_any A2 c2 bs w3 (HS.out.below HB3.out) (by omega)
    rcases dec_back bs with ⟨h1, h2, h3, h4⟩ | ⟨h1, h2⟩
    · obtain ⟨zs, f3, hd3⟩ : ∃ zs f, decL bs = (zs, f) := ⟨_, _, rfl⟩
      rw [hd3] at hdb h1 h2 h3 h4
      dsimp only at h1 h2 h3 h4
      subst h1
      have Hdb := Lib.hid hdb
      have H2 := Lib.hid h2
      have H3 := Lib.hid h3
      clear hdb h2 h3 hd3
      go_wp2_with fail
      refine Hdb.out.mono ?_
      intro e v1 hpost
      obtain ⟨B1, d1, rfl, hown1, hb1⟩ := hpost
      have hzv1 := hb1.size
      have HV1 := Lib.hid (HB3.out.trans (hb1.mono HB3.out.size))
      have henc := encode_any B1 d1 zs v1 (RV.of_own hown1) (fun i hi => (H3.out i hi).2) (by unfold maxLen; omega)
      rw [H2.out] at henc
      have Henc := Lib.hid henc
      clear henc hown1 hb1 Hdb
      go_wp2_with fail
      refine Henc.out.mono ?_
      intro e v2 hpost
      obtain ⟨B2, d2, rfl, hown2, hb2⟩ := hpost
      have HV2 := Lib.hid (HV1.out.trans (hb2.mono HV1.out.size))
      have Hr2 := Lib.hid (RV.of_own hown2)
      have Hrb := Lib.hid (HS.out.below HV2.out).rv
      clear hb2 hown2 Henc
      go_wp2_with (first
        | (refine wpList_at 106 rfl ?_; refine wpList_bytesStrG rfl (.tmp 105) (A := B2) (c := d2) (ys := bs) rfl rfl Hr2.out Try.underlying32 Try.underlying5 Try.underlying9 ?_)
        | (refine wpList_at 108 rfl ?_; refine wpList_bytesStrG rfl (.tmp 107) (A := A2) (c := c2) (ys := bs) rfl rfl Hrb.out Try.underlying32 Try.underlying5 Try.underlying9 ?_))
      go_ret
      exact ⟨rfl, HV2.out⟩
    · obtain ⟨zs, f3, hd3⟩ : ∃ zs f, decL bs = (zs, f) := ⟨_, _, rfl⟩
      rw [hd3] at hdb h1 h2
      dsimp only at h1 h2
      subst h2
      have Hdb := Lib.hid hdb
      clear hdb hd3
      go_wp2_with fail
      refine Hdb.out.mono ?_
      intro e v1 hpost
      obtain ⟨B1, d1, rfl, hown1, hb1⟩ := hpost
      have HV1 := Lib.hid (HB3.out.trans (hb1.mono HB3.out.size))
      have hne : ¬ f3 = 0 := h1
      clear hown1 hb1 Hdb h1
      go_wp2_with fail
      go_ret
      exact ⟨rfl, HV1.out⟩
end Go.Proofs.Ytmmdkpnoncnjnaa
