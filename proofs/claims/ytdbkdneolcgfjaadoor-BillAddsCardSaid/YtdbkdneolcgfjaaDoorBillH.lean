/-
  The contract of sawmillref50.Text.
-/
import Derived.Test.YtdbkdneolcgfjaaDoorBillG
namespace Go.Proofs.YtdbkdneolcgfjaaDoor
open Go.RowKit Saw Go.Sort

theorem itoa_sz (n : Int) (h0 : 0 ≤ n) (h1 : n ≤ 1000000000000000) : (str (Lib.itoa n)).size ≤ 21 := by
  rw [size_str]; exact Lib.itoa_length_le n (by omega) (by omega)

set_option maxRecDepth 100000 in
set_option maxHeartbeats 1000000 in
theorem refText_any (c : List Pr) (l : List It) (t : List Ti) (vc vl vt : Value) (w : World) (hc : RdPr w w.heap.size vc c) (hnm : ∀ x ∈ c, x.name.length ≤ 1000000) (hl : RdIt w w.heap.size vl l) (ht : RdTi w w.heap.size vt t) :
    Calls Tryd.prog 21 #[vc, vl, vt] w (TextPost (textP c l t) w) := by
  obtain ⟨Ac, cc, rfl, _, _⟩ := hc.form
  obtain ⟨Al, cl, rfl, hcl, hml⟩ := hl.form
  unfold maxLen at hml
  obtain ⟨b1, b2, b3, b4⟩ := sums_bd c l t
  obtain ⟨am, s, d, e, hs⟩ : ∃ am s d e, sumsP c l t = (am, s, d, e) := ⟨_, _, _, _, rfl⟩
  rw [hs] at b1 b2 b3 b4
  simp only at b1 b2 b3 b4
  obtain ⟨r, hr⟩ : ∃ r, textP c l t = r := ⟨_, rfl⟩
  rw [hr]
  rw [text_of hs] at hr
  obtain ⟨z, hz⟩ : ∃ z, s - d = z := ⟨_, rfl⟩
  have HR := Lib.hid hr
  have HS := Lib.hid hs
  have HT : Hid (totalP c l t = (z, e)) := by rw [totalP, hs]; exact Prod.ext hz rfl
  have H1 := Lib.hid hc
  have H2 := Lib.hid hnm
  have H3 := Lib.hid hl
  have H4 := Lib.hid ht
  have HZ := Lib.hid hz
  have z1 : 0 ≤ z := by omega
  have z2 : z ≤ 48000000000000 := by omega
  have hszd : s - z = d := by omega
  clear hr hs hc hnm hl ht hz
  go_enter Tryd.func21, Tryd.ntmps21
  go_wp2_with fail
  refine (refTotal_any c l t _ _ _ _ H1.out H2.out H3.out H4.out).mono ?_
  rintro e' w1 ⟨he, hb⟩
  rw [HT.out] at he
  subst he
  have HB := Lib.hid hb
  have hsz := hb.size
  clear hb
  by_cases hz : e = 0
  · subst hz
    obtain ⟨hsum, _, hok, ham, hl32⟩ := sums_ok HS.out
    have HAL := Lib.hid (show am.length = l.length by rw [ham, List.length_map])
    have HAB := Lib.hid (show ∀ a ∈ am, 0 ≤ a ∧ a ≤ 1500000000000 from fun a ha => by rw [ham] at ha; obtain ⟨i, _, rfl⟩ := List.mem_map.1 ha; exact amount_bd c i)
    have HOK := Lib.hid hok
    have HSM := Lib.hid hsum
    have HR2 := Lib.hid (show (segP c l am l.length ++ lineP discountW [d] ++ lineP totalW [z], (0 : Int)) = r by have h9 := HR.out; rw [if_neg (by simp), HZ.out] at h9; exact h9)
    clear hok ham HR hsum
    go_wp2_with fail
    refine (refSum_any c l _ _ _ (H1.out.next HB.out) H2.out (Rd.next H3.out HB.out)).mono ?_
    rintro e' w2 ⟨v, he, hown, hb2⟩
    rw [HSM.out] at he hown
    subst he
    have HB2 := Lib.hid (HB.out.trans (hb2.mono hsz))
    have hsz2 := HB2.out.size
    have HAM := Lib.hid (show RdI w2 w2.heap.size v am from Rd.of_own hown)
    obtain ⟨Av, cv, rfl, hcv, _⟩ := HAM.out.form
    clear hb2 hown
    go_wp2_with fail
    go_loopw [13, 14] (fun sv i wr => ∃ (k : Nat) (tt : ByteArray), k ≤ l.length ∧ i = .int .i64 k ∧ sv = .string tt ∧ bts tt = segP c l am k ∧ Below w2.heap.size w2 wr) (fun _ i _ => l.length - (intOf i).toNat)
    case atStart => exact ⟨0, ⟨#[]⟩, by omega, rfl, rfl, rfl, Below.refl _ _⟩
    case round =>
      obtain ⟨k, tt, hk, rfl, rfl, htt, hbr⟩ := hrel
      have HBR := Lib.hid hbr
      have hszr := hbr.size
      have HTT := Lib.hid htt
      have htl : tt.size ≤ 32 * 83 := by rw [size_bts, htt]; have := segP_len (c := c) HOK.out HAB.out k; omega
      have HBW := Lib.hid (HB2.out.trans (hbr.mono hsz2))
      clear htt
      by_cases hlt : k < l.length
      · have hx : l[k]? = some l[k] := List.getElem?_eq_getElem hlt
        obtain ⟨i, hie⟩ : ∃ i, l[k] = i := ⟨_, rfl⟩
        rw [hie] at hx
        have hkm : k < am.length := by have := HAL.out; omega
        have ha : am[k]? = some am[k] := List.getElem?_eq_getElem hkm
        obtain ⟨a, hae⟩ : ∃ a, am[k] = a := ⟨_, rfl⟩
        rw [hae] at ha
        obtain ⟨p, x, hpk, hpx, hpn, i1, i2, i3, i4⟩ := amount_ok (HOK.out i (List.mem_of_getElem? hx))
        obtain ⟨a1, a2⟩ := HAB.out a (List.mem_of_getElem? ha)
        obtain ⟨b, off, rfl, hbl, q0, q1, q2, q3⟩ := RdIt.at_ (Rd.below H3.out HBW.out : RdIt _ _ _ _) hx
        rw [hpk] at q0
        obtain ⟨bc, oc, A1, c1, A2, c2, rfl, hbc, _, _, _, _, n0, _⟩ := RdPr.at_ (H1.out.below HBW.out) hpx
        obtain ⟨ba, oa, rfl, hba, m0⟩ := RdI.at_ (HAM.out.below hbr) ha
        have hpl : p < c.length := (List.getElem?_eq_some_iff.1 hpx).1
        have hgd : c.getD i.product.toNat Pr.zero = x := by rw [hpk, Int.toNat_natCast, List.getD_eq_getElem?_getD, hpx]; rfl
        have HSEG := Lib.hid (segP_succ (c := c) hx ha)
        have HIL := Lib.hid (show itemLine c i a = lineP x.name [i.length, i.count, a] by rw [itemLine, hgd])
        have hnl := (isNameP_len hpn).2
        have hns : (str x.name).size ≤ 16 := by rw [size_str]; exact hnl
        have f1 : (0 : Int) ≤ (p : Int) := by omega
        have f2 : (p : Int) < (c.length : Int) := by omega
        have f3 : (0 : Int) ≤ (k : Int) := by omega
        have f4 : (k : Int) < (am.length : Int) := by omega
        have f5 : (k : Int) < (l.length : Int) := by omega
        have y0 : ∀ d os, (grow (redrawn wr d) os).cell? ⟨b, off + k * 4, none⟩ = some (.int .i64 (p : Int)) := fun d os => cell_regrown q0 d os
        have y1 : ∀ d os, (grow (redrawn wr d) os).cell? ⟨b, off + k * 4 + 1, none⟩ = some (.int .i64 i.length) := fun d os => cell_regrown q1 d os
        have y2 : ∀ d os, (grow (redrawn wr d) os).cell? ⟨b, off + k * 4 + 2, none⟩ = some (.int .i64 i.count) := fun d os => cell_regrown q2 d os
        have y3 : ∀ d os, (grow (redrawn wr d) os).cell? ⟨bc, oc + p * 7, none⟩ = some (.string (str x.name)) := fun d os => cell_regrown n0 d os
        have y4 : ∀ d os, (grow (redrawn wr d) os).cell? ⟨ba, oa + k, none⟩ = some (.int .i64 a) := fun d os => cell_regrown m0 d os
        have s1 := itoa_sz i.length (by omega) (by omega)
        have s2 := itoa_sz i.count (by omega) (by omega)
        have s3 := itoa_sz a (by omega) (by omega)
        obtain ⟨d1, hd1⟩ : ∃ d1, str (Lib.itoa i.length) = d1 := ⟨_, rfl⟩
        obtain ⟨d2, hd2⟩ : ∃ d2, str (Lib.itoa i.count) = d2 := ⟨_, rfl⟩
        obtain ⟨d3, hd3⟩ : ∃ d3, str (Lib.itoa a) = d3 := ⟨_, rfl⟩
        rw [hd1] at s1
        rw [hd2] at s2
        rw [hd3] at s3
        have D1 : Hid (∀ W, Calls Tryd.prog 35 #[.int .i64 i.length] W fun e w' => e = .returned (.string d1) ∧ Below W.heap.size W w') := fun W => by rw [← hd1]; exact dec_itoa _ (by omega) (by omega) W
        have D2 : Hid (∀ W, Calls Tryd.prog 35 #[.int .i64 i.count] W fun e w' => e = .returned (.string d2) ∧ Below W.heap.size W w') := fun W => by rw [← hd2]; exact dec_itoa _ (by omega) (by omega) W
        have D3 : Hid (∀ W, Calls Tryd.prog 35 #[.int .i64 a] W fun e w' => e = .returned (.string d3) ∧ Below W.heap.size W w') := fun W => by rw [← hd3]; exact dec_itoa _ (by omega) (by omega) W
        have HD := Lib.hid (And.intro hd1 (And.intro hd2 hd3))
        have g1 : ¬ 9223372036854775807 < tt.size + (str x.name).size := by omega
        have g2 : ¬ 9223372036854775807 < tt.size + (str x.name).size + 1 := by omega
        have g3 : ¬ 9223372036854775807 < tt.size + (str x.name).size + 1 + d1.size := by omega
        have g4 : ¬ 9223372036854775807 < tt.size + (str x.name).size + 1 + d1.size + 1 := by omega
        have g5 : ¬ 9223372036854775807 < tt.size + (str x.name).size + 1 + d1.size + 1 + d2.size := by omega
        have g6 : ¬ 9223372036854775807 < tt.size + (str x.name).size + 1 + d1.size + 1 + d2.size + 1 := by omega
        have g7 : ¬ 9223372036854775807 < tt.size + (str x.name).size + 1 + d1.size + 1 + d2.size + 1 + d3.size := by omega
        have g8 : ¬ 9223372036854775807 < tt.size + (str x.name).size + 1 + d1.size + 1 + d2.size + 1 + d3.size + 1 := by omega
        clear hgd hpx hx hie ha hae hpn hpk hd1 hd2 hd3 q0 q1 q2 q3 n0 m0 hbr
        go_wp2_with fail
        refine wp_region_quiet_below (by kernel_rfl) (by kernel_rfl) ?_
        repeat (first
          | (open Go.BigFrame in go_big_quiet_step ((first | (with_reducible exact Calls.regrown_of (D1.out _)) | (with_reducible exact Calls.regrown_of (D2.out _)) | (with_reducible exact Calls.regrown_of (D3.out _)))))
          | (quiet_step ((first | (with_reducible exact Calls.regrown_of (D1.out _)) | (with_reducible exact Calls.regrown_of (D2.out _)) | (with_reducible exact Calls.regrown_of (D3.out _))))))
        refine wpQuiet_nil ?_
        rintro w6 ⟨z6, hw6⟩
        have hb6 : Below wr.heap.size wr w6 := by rw [hw6]; exact below_regrown _ _ _
        have HB6 := Lib.hid (HBR.out.trans (hb6.mono hszr))
        clear hw6 hb6 y0 y1 y2 y3 y4
        go_wp2_with fail
        refine ⟨⟨k + 1, _, by omega, by go_num, rfl, ?_, HB6.out⟩, by simp [intOf]; omega⟩
        rw [HSEG.out, HIL.out, ← HTT.out, ← HD.out.1, ← HD.out.2.1, ← HD.out.2.2]
        simp only [bts_append, bts_str, lineP, List.flatMap_cons, List.flatMap_nil, List.append_nil]
        simp [bts]
      · have hkl : k = l.length := by omega
        rw [hkl] at HTT
        obtain ⟨acc, hacc⟩ : ∃ acc, segP c l am l.length = acc := ⟨_, rfl⟩
        rw [hacc] at HTT HR2
        have s1 := itoa_sz d (by omega) (by omega)
        have s2 := itoa_sz z (by omega) (by omega)
        obtain ⟨d1, hd1⟩ : ∃ d1, str (Lib.itoa d) = d1 := ⟨_, rfl⟩
        obtain ⟨d2, hd2⟩ : ∃ d2, str (Lib.itoa z) = d2 := ⟨_, rfl⟩
        rw [hd1] at s1
        rw [hd2] at s2
        have D1 := Lib.hid (fun W => dec_itoa d (by omega) (by omega) W)
        have D2 := Lib.hid (fun W => dec_itoa z (by omega) (by omega) W)
        have HD := Lib.hid (And.intro hd1 hd2)
        have h9 : (⟨#[100, 105, 115, 99, 111, 117, 110, 116, 32]⟩ : ByteArray).size = 9 := rfl
        have h7 : (⟨#[10, 116, 111, 116, 97, 108, 32]⟩ : ByteArray).size = 7 := rfl
        clear hkl hacc hbr hd1 hd2
        go_wp2_with fail
        refine (D1.out _).mono ?_
        rintro e5 w5 ⟨he5, hb5⟩
        rw [HD.out.1] at he5
        subst he5
        have HB5 := Lib.hid (HBR.out.trans (hb5.mono hszr))
        have hsz5 := HB5.out.size
        clear hb5
        go_wp2_with fail
        refine (D2.out _).mono ?_
        rintro e6 w6 ⟨he6, hb6⟩
        rw [HD.out.2] at he6
        subst he6
        have HB6 := Lib.hid (HB2.out.trans ((HB5.out.trans (hb6.mono hsz5)).mono hsz2))
        clear hb6
        have hrz := HR2.out
        subst hrz
        go_wp2_with fail
        go_ret2
        refine ⟨?_, HB6.out⟩
        show Ending.returned (.tuple #[.string _, .int .i64 0]) = _
        have key : tt ++ (⟨#[100, 105, 115, 99, 111, 117, 110, 116, 32]⟩ : ByteArray) ++ d1 ++ ⟨#[10, 116, 111, 116, 97, 108, 32]⟩ ++ d2 ++ ⟨#[10]⟩ = str (acc ++ lineP discountW [d] ++ lineP totalW [z]) := by
          rw [← str_bts (tt ++ (⟨#[100, 105, 115, 99, 111, 117, 110, 116, 32]⟩ : ByteArray) ++ d1 ++ ⟨#[10, 116, 111, 116, 97, 108, 32]⟩ ++ d2 ++ ⟨#[10]⟩), ← HD.out.1, ← HD.out.2, ← HTT.out]
          congr 1
          simp only [bts_append, bts_str, lineP, List.flatMap_cons, List.flatMap_nil, List.append_nil]
          simp [bts, discountW, totalW]
        rw [key]
  · have hzb : (e != 0) = true := by rw [bne_iff_ne]; exact hz
    have hrz : r = ([], e) := by rw [← HR.out, if_pos hz]
    subst hrz
    clear hz HR
    go_wp2_with fail
    go_ret2
    exact ⟨rfl, HB.out⟩

end Go.Proofs.YtdbkdneolcgfjaaDoor
