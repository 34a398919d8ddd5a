/-
  BillLines walked.
-/
import Derived.Test.YtdbkdneolcgfjaaDoorBillOpen
namespace Saw
theorem text_err (c : List Pr) (l : List It) (t : List Ti) : (textP c l t).2 = (totalP c l t).2 := by
  rw [text_of (c := c) (l := l) (t := t) (am := (sumsP c l t).1) (s := (sumsP c l t).2.1) (d := (sumsP c l t).2.2.1) (e := (sumsP c l t).2.2.2) rfl, totalP]
  split
  · rfl
  · rename_i h; simp only; exact (by simpa using h : (sumsP c l t).2.2.2 = 0).symm
/-- The number of line feeds. -/
def lfN (l : List UInt8) : Nat := l.countP fun c => c.toNat == 10
theorem lfN_app (a b : List UInt8) : lfN (a ++ b) = lfN a + lfN b := List.countP_append
theorem lfN_zero {l : List UInt8} (h : ∀ c ∈ l, c.toNat ≠ 10) : lfN l = 0 := by
  rw [lfN, List.countP_eq_zero]
  intro c hc
  simpa using h c hc
theorem dec_no10 : ∀ (n u : Nat), u ≤ n → ∀ c ∈ Go.Lib.decDigits u, c.toNat ≠ 10 := by
  intro n
  induction n with
  | zero =>
    intro u hu
    obtain rfl : u = 0 := by omega
    rw [Go.Lib.decDigits, dif_pos (by decide)]
    intro c hc
    rw [List.mem_singleton.1 hc]; decide
  | succ n ih =>
    intro u hu c hc
    rw [Go.Lib.decDigits] at hc
    by_cases h10 : u < 10
    · rw [dif_pos h10, List.mem_singleton] at hc
      rw [hc, UInt8.toNat_ofNat']; omega
    · rw [dif_neg h10] at hc
      rcases List.mem_append.1 hc with hc | hc
      · exact ih (u / 10) (by omega) c hc
      · rw [List.mem_singleton.1 hc, UInt8.toNat_ofNat']; omega
theorem lf_line {wd : List UInt8} {ns : List Int} (hw : ∀ c ∈ wd, c.toNat ≠ 10) (hn : ∀ n ∈ ns, 0 ≤ n) : lfN (lineP wd ns) = 1 := by
  rw [lineP, lfN_app, lfN_app, lfN_zero hw, lfN_zero (l := ns.flatMap fun n => 32 :: Go.Lib.itoa n)]
  · rfl
  · intro c hc
    obtain ⟨n, hm, hc⟩ := List.mem_flatMap.1 hc
    rcases List.mem_cons.1 hc with rfl | hc
    · decide
    · have h0 := hn n hm
      rw [Go.Lib.itoa, if_neg (by omega)] at hc
      exact dec_no10 _ _ (Nat.le_refl _) c hc
theorem name_no10 {l : List UInt8} (h : isNameP l = true) : ∀ c ∈ l, c.toNat ≠ 10 := by
  cases l with
  | nil => cases h
  | cons a r =>
    rw [isNameP, Bool.and_eq_true, Bool.and_eq_true] at h
    intro c hc
    rcases List.mem_cons.1 hc with rfl | hc
    · have := h.1.2
      simp only [smallI, Bool.and_eq_true, decide_eq_true_eq] at this
      omega
    · have := List.all_eq_true.1 h.2 c hc
      simp only [nameI, smallI, digI, Bool.or_eq_true, Bool.and_eq_true, decide_eq_true_eq, beq_iff_eq] at this
      omega
theorem lf_seg {c : List Pr} {l : List It} {am : List Int} (h : ∀ i ∈ l, (amountP c i).2 = 0) (ha : ∀ a ∈ am, 0 ≤ a) (hl : am.length = l.length) : ∀ k, k ≤ l.length → lfN (segP c l am k) = k
  | 0, _ => by simp [segP, lfN]
  | k + 1, hk => by
    have hi : l[k]? = some l[k] := List.getElem?_eq_getElem (by omega)
    have hka : k < am.length := by omega
    have hae : am[k]? = some am[k] := List.getElem?_eq_getElem hka
    rw [segP_succ hi hae, lfN_app, lf_seg h ha hl k (by omega)]
    obtain ⟨p, x, hp, hx, hn, h1, h2, h3, h4⟩ := amount_ok (h l[k] (List.getElem_mem (show k < l.length by omega)))
    have hg : c.getD l[k].product.toNat Pr.zero = x := by rw [hp, Int.toNat_natCast, List.getD_eq_getElem?_getD, hx]; rfl
    rw [itemLine, hg, lf_line (name_no10 hn)]
    intro n hm
    simp only [List.mem_cons, List.not_mem_nil, or_false] at hm
    have := ha _ (List.getElem_mem hka)
    rcases hm with rfl | rfl | rfl <;> omega
/-- The lines of a text, and its end. -/
theorem text_lines {c : List Pr} {l : List It} {t : List Ti} {tx : List UInt8} (h : textP c l t = (tx, 0)) : lfN tx = l.length + 2 ∧ ∃ y, tx = y ++ [10] ∧ y.length ≤ 3000 := by
  obtain ⟨b1, b2, b3, b4⟩ := sums_bd c l t
  obtain ⟨am, s, d, e, hs⟩ : ∃ am s d e, sumsP c l t = (am, s, d, e) := ⟨_, _, _, _, rfl⟩
  rw [hs] at b1 b2 b3 b4
  simp only at b1 b2 b3 b4
  rw [text_of hs] at h
  by_cases he : e = 0
  · subst he
    rw [if_neg (by simp)] at h
    simp only [Prod.mk.injEq, and_true] at h
    obtain ⟨_, _, hok, ham, hl32⟩ := sums_ok hs
    have hab : ∀ a ∈ am, 0 ≤ a ∧ a ≤ 1500000000000 := fun a ha => by rw [ham] at ha; obtain ⟨i, _, rfl⟩ := List.mem_map.1 ha; exact amount_bd' c i
    have hal : am.length = l.length := by rw [ham, List.length_map]
    have hd : ∀ n ∈ [d], 0 ≤ n := by intro n hn; rw [List.mem_singleton.1 hn]; exact b3
    have hz : ∀ n ∈ [s - d], 0 ≤ n := by intro n hn; rw [List.mem_singleton.1 hn]; omega
    refine ⟨?_, segP c l am l.length ++ lineP discountW [d] ++ (totalW ++ [s - d].flatMap (fun n => 32 :: Go.Lib.itoa n)), ?_, ?_⟩
    · rw [← h, lfN_app, lfN_app, lf_seg hok (fun a ha => (hab a ha).1) hal _ (Nat.le_refl _), lf_line (by decide) hd, lf_line (by decide) hz]
    · rw [← h, lineP, lineP]; simp only [List.append_assoc]
    · have h1 := segP_len (c := c) hok hab l.length
      have h2 := line_len (wd := discountW) (ns := [d]) (by intro n hn; rw [List.mem_singleton.1 hn]; omega)
      have h3 := line_len (wd := totalW) (ns := [s - d]) (by intro n hn; rw [List.mem_singleton.1 hn]; omega)
      have e1 : discountW.length = 8 := rfl
      have e2 : totalW.length = 5 := rfl
      have h4 : (lineP totalW [s - d]).length = (totalW ++ [s - d].flatMap (fun n => 32 :: Go.Lib.itoa n)).length + 1 := by rw [lineP]; simp; omega
      simp only [List.length_cons, List.length_nil] at h2 h3
      rw [List.length_append, List.length_append]
      omega
  · rw [if_pos he] at h
    exact absurd (congrArg (·.2) h) he
theorem text_bad {c : List Pr} {l : List It} {t : List Ti} {tx : List UInt8} {e : Int} (h : textP c l t = (tx, e)) (he : e ≠ 0) : tx = [] := by
  rw [text_of (c := c) (l := l) (t := t) (am := (sumsP c l t).1) (s := (sumsP c l t).2.1) (d := (sumsP c l t).2.2.1) (e := (sumsP c l t).2.2.2) rfl] at h
  split at h
  · simp only [Prod.mk.injEq] at h; exact h.1.symm
  · simp only [Prod.mk.injEq] at h; exact absurd h.2.symm he
end Saw
namespace Go.Proofs.YtdbkdneolcgfjaaDoor
open Go.RowKit Saw Go.Sort

set_option maxRecDepth 100000 in
set_option maxHeartbeats 1000000 in
theorem billLines_walk (c : List Pr) (l : List It) (t : List Ti) (Ac Al At : Option Addr) (cc cl ct : Nat) (w : World) (h : InvOk w c l t Ac Al At cc cl ct) (hv : VarsB w) :
    Calls Tryd.prog 9 #[.agg #[.slice Ac c.length cc, .slice Al l.length cl, .slice At t.length ct]] w (LawB w) := by
  obtain ⟨hc, hl, ht, hn⟩ := h
  obtain ⟨W0, hW0⟩ : ∃ W0, w.alloc (.cells #[.slice Ac c.length cc, .slice Al l.length cl, .slice At t.length ct] 26) = W0 := ⟨_, rfl⟩
  have s0 : W0.heap.size = w.heap.size + 1 := by rw [← hW0, World.size_alloc]
  have b0 : Below w.heap.size w W0 := by rw [← hW0]; exact (Below.refl _ _).alloc (Nat.le_refl _) _
  have g0 : W0.heap[w.heap.size]? = some (.cells #[.slice Ac c.length cc, .slice Al l.length cl, .slice At t.length ct] 26 (0, 0)) := by rw [← hW0]; exact heap_alloc_last w _
  have p0 : W0.cell? ⟨w.heap.size, 0, none⟩ = some (.slice Ac c.length cc) := cell_of_box g0 rfl
  have p1 : W0.cell? ⟨w.heap.size, 1, none⟩ = some (.slice Al l.length cl) := cell_of_box g0 rfl
  have p2 : W0.cell? ⟨w.heap.size, 2, none⟩ = some (.slice At t.length ct) := cell_of_box g0 rfl
  obtain ⟨_, _, _, _, hl1⟩ := hl.form
  obtain ⟨_, _, _, _, ht1⟩ := ht.form
  have HC0 := Lib.hid (hc.next b0)
  have HI0 := Lib.hid (show RdIt W0 W0.heap.size _ l from Rd.next hl b0)
  have HT0 := Lib.hid (show RdTi W0 W0.heap.size _ t from Rd.next ht b0)
  have HB0 := Lib.hid b0
  have HV := Lib.hid hv
  have HN := Lib.hid (show ∀ x ∈ c, x.name.length ≤ 9223372036854775807 from fun x hx => by have := hn x hx; unfold maxLen at this; omega)
  have HW0 := Lib.hid hW0
  have HL1 := Lib.hid hl1
  have HT1 := Lib.hid ht1
  clear hc hl ht hn hv b0 g0 hW0 hl1 ht1
  go_enter Tryd.func9, Tryd.ntmps9
  go_wp2_with fail
  rw [HW0.out]
  refine (smallB_any c l t Ac Al At cc cl ct _ HC0.out HL1.out HT1.out HN.out).mono ?_
  rintro e w1 ⟨he, hb⟩
  have HB := Lib.hid (HB0.out.trans (hb.mono HB0.out.size))
  have hsz1 := HB.out.size
  have hs1 : w.heap.size + 1 ≤ w1.heap.size := by have := hb.size; omega
  have r0 : w1.cell? ⟨w.heap.size, 0, none⟩ = some (.slice Ac c.length cc) := (hb.cell (p := ⟨w.heap.size, 0, none⟩) (by show w.heap.size < _; omega)).trans p0
  have r1 : w1.cell? ⟨w.heap.size, 1, none⟩ = some (.slice Al l.length cl) := (hb.cell (p := ⟨w.heap.size, 1, none⟩) (by show w.heap.size < _; omega)).trans p1
  have r2 : w1.cell? ⟨w.heap.size, 2, none⟩ = some (.slice At t.length ct) := (hb.cell (p := ⟨w.heap.size, 2, none⟩) (by show w.heap.size < _; omega)).trans p2
  have HC1 := Lib.hid (HC0.out.next hb)
  have HI1 := Lib.hid (show RdIt w1 w1.heap.size _ l from Rd.next HI0.out hb)
  have HT1' := Lib.hid (show RdTi w1 w1.heap.size _ t from Rd.next HT0.out hb)
  clear hb p0 p1 p2 HC0 HI0 HT0 HB0 HW0
  cases hsm : smallB c l t with
  | false =>
    rw [hsm] at he
    subst he
    clear hsm
    go_wp2_with fail
    refine (awakeB_any _ (HV.out.below HB.out)).mono ?_
    rintro e w2 ⟨rfl, hb2⟩
    have HB2 := Lib.hid (HB.out.trans (hb2.mono hsz1))
    clear hb2
    go_wp2_with fail
    go_ret
    exact ⟨rfl, HB2.out⟩
  | true =>
    rw [hsm] at he
    subst he
    obtain ⟨_, hl100, ht30, hnm⟩ := smallB_names hsm
    have HNM := Lib.hid hnm
    clear hsm hnm
    obtain ⟨n, f, htot⟩ : ∃ n f, totalP c l t = (n, f) := ⟨_, _, rfl⟩
    have HTOT := Lib.hid htot
    obtain ⟨tx, htx⟩ : ∃ tx, textP c l t = (tx, f) := ⟨(textP c l t).1, Prod.ext rfl (by rw [text_err]; rw [htot])⟩
    have HTX := Lib.hid htx
    clear htot htx
    go_wp2_with fail
    refine (total_any c l t _ _ _ _ HC1.out HNM.out HI1.out HT1'.out).mono ?_
    rintro e w2 ⟨he, hb2⟩
    rw [HTOT.out] at he
    subst he
    have HB2 := Lib.hid (HB.out.trans (hb2.mono hsz1))
    have hsz2 := HB2.out.size
    have hs2 : w.heap.size + 1 ≤ w2.heap.size := Nat.le_trans hs1 hb2.size
    have HC2 := Lib.hid (HC1.out.next hb2)
    have HI2 := Lib.hid (show RdIt w2 w2.heap.size _ l from Rd.next HI1.out hb2)
    have HT2 := Lib.hid (show RdTi w2 w2.heap.size _ t from Rd.next HT1'.out hb2)
    have t0 : w2.cell? ⟨w.heap.size, 0, none⟩ = some (.slice Ac c.length cc) := (hb2.cell (p := ⟨w.heap.size, 0, none⟩) (by show w.heap.size < _; omega)).trans r0
    have t1 : w2.cell? ⟨w.heap.size, 1, none⟩ = some (.slice Al l.length cl) := (hb2.cell (p := ⟨w.heap.size, 1, none⟩) (by show w.heap.size < _; omega)).trans r1
    have t2 : w2.cell? ⟨w.heap.size, 2, none⟩ = some (.slice At t.length ct) := (hb2.cell (p := ⟨w.heap.size, 2, none⟩) (by show w.heap.size < _; omega)).trans r2
    clear hb2 r0 r1 r2 HC1 HI1 HT1'
    go_wp2_with fail
    refine (text_any c l t _ _ _ _ HC2.out HNM.out HI2.out HT2.out (HV.out.below HB2.out).1 (HV.out.below HB2.out).2).mono ?_
    rintro e w3 ⟨he, hb3⟩
    rw [HTX.out] at he
    subst he
    have HB3 := Lib.hid (HB2.out.trans (hb3.mono hsz2))
    have hsz3 := HB3.out.size
    have hs3 : w.heap.size + 1 ≤ w3.heap.size := Nat.le_trans hs2 hb3.size
    have HC3 := Lib.hid (HC2.out.next hb3)
    have HI3 := Lib.hid (show RdIt w3 w3.heap.size _ l from Rd.next HI2.out hb3)
    have HT3 := Lib.hid (show RdTi w3 w3.heap.size _ t from Rd.next HT2.out hb3)
    have v1 : w3.cell? ⟨w.heap.size, 1, none⟩ = some (.slice Al l.length cl) := (hb3.cell (p := ⟨w.heap.size, 1, none⟩) (by show w.heap.size < _; omega)).trans t1
    clear hb3 t0 t1 t2
    have hff : (f != f) = false := by rw [bne_eq_false_iff_eq]
    by_cases hz : f = 0
    · subst hz
      obtain ⟨hlf, y, hy, hyl⟩ := text_lines HTX.out
      obtain ⟨sb, hsb⟩ : ∃ sb, str tx = sb := ⟨_, rfl⟩
      have hbt : bts sb = y ++ [10] := by rw [← hsb, bts_str, hy]
      have hsm : sb.size = y.length + 1 := by rw [size_bts, hbt, List.length_append]; rfl
      have HLF := Lib.hid (show lfN (bts sb) = l.length + 2 by rw [← hsb, bts_str]; exact hlf)
      have HBT := Lib.hid hbt
      rw [hsb]
      clear hsb hlf hy hbt
      go_wp2_with fail
      go_loop [7, 8] (fun nv i => ∃ k : Nat, k ≤ sb.size ∧ i = .int .i64 k ∧ nv = .int .i64 (lfN ((bts sb).take k) : Nat)) (fun _ i => sb.size - (intOf i).toNat)
      case atStart => exact ⟨0, by omega, rfl, rfl⟩
      case round =>
        obtain ⟨k, hk, rfl, rfl⟩ := hrel
        by_cases hlt : k < sb.size
        · have hst : (bts sb).take (k + 1) = (bts sb).take k ++ [sb[k]] := by
            have hkl : k < (bts sb).length := by rw [← size_bts]; exact hlt
            rw [List.take_add_one, List.getElem?_eq_getElem hkl]
            rfl
          have hle : lfN ((bts sb).take k) ≤ k := Nat.le_trans List.countP_le_length (by rw [List.length_take]; omega)
          obtain ⟨q, hq⟩ : ∃ q, lfN ((bts sb).take k) = q := ⟨_, rfl⟩
          rw [hq] at hle ⊢
          have HST := Lib.hid (show lfN ((bts sb).take (k + 1)) = q + (if sb[k].toNat = 10 then 1 else 0) by rw [hst, lfN_app, hq, lfN]; simp [List.countP_cons])
          clear hst hq
          by_cases h10 : sb[k].toNat = 10
          · have hb10 : ((sb[k].toNat : Int) == 10) = true := by rw [h10]; rfl
            have HN := Lib.hid (show lfN ((bts sb).take (k + 1)) = q + 1 by rw [HST.out, if_pos h10])
            clear h10
            go_wp2_with fail
            exact ⟨⟨k + 1, by omega, by go_num, by rw [HN.out]; go_num⟩, by simp [intOf]; omega⟩
          · have hb10 : ((sb[k].toNat : Int) == 10) = false := by rw [beq_eq_false_iff_ne]; omega
            have HN := Lib.hid (show lfN ((bts sb).take (k + 1)) = q by rw [HST.out, if_neg h10, Nat.add_zero])
            clear h10
            go_wp2_with fail
            exact ⟨⟨k + 1, by omega, by go_num, by rw [HN.out]⟩, by simp [intOf]; omega⟩
        · have hq : lfN ((bts sb).take k) = l.length + 2 := by rw [List.take_of_length_le (by rw [← size_bts]; omega)]; exact HLF.out
          rw [hq]
          have hm : y.length < sb.size := by omega
          have hlast : sb[y.length].toNat = 10 := by
            have h1 : (bts sb)[y.length]? = some 10 := by rw [HBT.out, List.getElem?_append_right (Nat.le_refl _), Nat.sub_self]; rfl
            have h2 : (bts sb)[y.length]? = some sb[y.length] := by
              have hkl : y.length < (bts sb).length := by rw [← size_bts]; exact hm
              rw [List.getElem?_eq_getElem hkl]; rfl
            rw [h1] at h2
            injection h2 with h2
            rw [← h2]; rfl
          have hb10 : ((sb[y.length].toNat : Int) == 10) = true := by rw [hlast]; rfl
          have hcnt : (((l.length + 2 : Nat) : Int) == (l.length : Int) + 2) = true := by rw [beq_iff_eq]; omega
          clear hq hlast
          go_wp2_with fail
          refine (awakeB_any _ (HV.out.below HB3.out)).mono ?_
          rintro e w4 ⟨rfl, hb4⟩
          have HB4 := Lib.hid (HB3.out.trans (hb4.mono hsz3))
          clear hb4
          go_wp2_with fail
          go_ret
          exact ⟨rfl, HB4.out⟩
    · have hzb : (f != 0) = true := by rw [bne_iff_ne]; exact hz
      have htz := text_bad HTX.out hz
      subst htz
      rw [show str [] = (⟨#[]⟩ : ByteArray) from rfl]
      clear hz
      go_wp2_with fail
      refine (awakeB_any _ (HV.out.below HB3.out)).mono ?_
      rintro e w4 ⟨rfl, hb4⟩
      have HB4 := Lib.hid (HB3.out.trans (hb4.mono hsz3))
      clear hb4
      go_wp2_with fail
      go_ret
      exact ⟨rfl, HB4.out⟩

end Go.Proofs.YtdbkdneolcgfjaaDoor
