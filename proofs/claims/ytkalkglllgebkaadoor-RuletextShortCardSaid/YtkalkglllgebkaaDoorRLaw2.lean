/-
  RuletextShort walked.
-/
import Derived.Test.YtkalkglllgebkaaDoorRyV
import Derived.Test.YtkalkglllgebkaaDoorRyG
import Derived.Test.YtkalkglllgebkaaDoorRyH
namespace Saw
theorem head_nm {o n : Int} {m : List UInt8} {k : Nat} (h : headP o n m k = true) : m.length ≤ 16 := by
  unfold headP at h
  rw [Bool.and_eq_true] at h
  have h2 := h.2
  by_cases ho : o = 2
  · rw [if_pos ho] at h2
    unfold namedP at h2
    rw [Bool.and_eq_true] at h2
    exact (isNameP_len h2.1).2
  · rw [if_neg ho, beq_iff_eq] at h2
    rw [h2]
    exact Nat.zero_le _
theorem formed_nmF : ∀ {f : Fo}, formedF f = true → nmF 16 f
  | .nil, _ => trivial
  | .cons o n m k r, h => by
    rw [formedF, Bool.and_eq_true, Bool.and_eq_true] at h
    exact ⟨head_nm h.1.1, formed_nmF h.1.2, formed_nmF h.2⟩
theorem nmF_mono {M M' : Nat} (hM : M ≤ M') : ∀ {f : Fo}, nmF M f → nmF M' f
  | .nil, _ => trivial
  | .cons o n m k r, h => ⟨Nat.le_trans h.1 hM, nmF_mono hM h.2.1, nmF_mono hM h.2.2⟩
theorem NmE.mono {M M' : Nat} {x : Ex} (h : NmE M x) (hM : M ≤ M') : NmE M' x := ⟨Nat.le_trans h.1 hM, nmF_mono hM h.2⟩
theorem well_nm {x : Ex} (h : wellP x = true) : NmE 1000000 x := by
  unfold wellP at h
  rw [Bool.and_eq_true] at h
  have h1 := h.1
  unfold formedE at h1
  rw [Bool.and_eq_true] at h1
  exact NmE.mono ⟨head_nm h1.1, formed_nmF h1.2⟩ (by decide)
theorem zero_nm : NmE 1000000 Ex.zero := ⟨by decide, trivial⟩
end Saw
namespace Go.Proofs.YtkalkglllgebkaaDoor
open Go.RowKit Saw Go.Sort

theorem rd_scan {w w' : World} {v : Value} {xs : List Lx} (h : OwnsLx w' w.heap.size v xs) : RdLx w' v xs := Rd.of_own h
theorem rdLx_next {w w' : World} {v : Value} {xs : List Lx} (h : RdLx w v xs) (hb : Below w.heap.size w w') : RdLx w' v xs := Rd.next h hb

set_option maxRecDepth 100000 in
set_option maxHeartbeats 2000000 in
theorem ruletextShort_walk (s : ByteArray) (w : World) (hs : s.size ≤ 9223372036854775807) (hv : VarsX w) :
    Calls Tryd.prog 9 #[.string s] w (LawX w) := by
  have HV := Lib.hid hv
  clear hv
  by_cases h3 : 3000 < (s.size : Int)
  · go_enter Tryd.func9, Tryd.ntmps9
    go_wp2_with fail
    refine (awake_any w HV.out).mono ?_
    rintro e w2 ⟨he, hb⟩
    subst he
    have HB := Lib.hid hb
    clear hb
    go_wp2_with fail
    go_ret
    exact ⟨rfl, HB.out⟩
  obtain ⟨r, hr⟩ : ∃ r, parseX (bts s) = r := ⟨_, rfl⟩
  obtain ⟨x, er, off⟩ := r
  obtain ⟨xs, er2, at2, hsc⟩ : ∃ xs er2 at2, scanP (bts s) = (xs, er2, at2) := ⟨_, _, _, rfl⟩
  have HR := Lib.hid hr
  have HSC := Lib.hid hsc
  have hxl : er = 0 → er2 = 0 := fun h => by
    subst h
    obtain ⟨_, _, xs', k, h1, _, _⟩ := parseX_ok hr
    rw [hsc] at h1
    injection h1 with _ h1
    injection h1
  have HXL := Lib.hid hxl
  clear hr hsc hxl
  go_enter Tryd.func9, Tryd.ntmps9
  go_wp2_with fail
  refine (both_any s w hs).mono ?_
  rintro e w1 ⟨A, c, he, hrd, hb⟩
  rw [HR.out] at he hrd
  subst he
  have HB1 := Lib.hid hb
  have HX1 := Lib.hid hrd
  clear hb hrd
  go_upto_region 4 with fail
  have hb2 := (Below.refl w1.heap.size w1).alloc (Nat.le_refl _) (.cells #[.int .i64 x.op, .int .i64 x.n, .string (str x.name), .slice A x.kids.toList.length c] 24)
  have hz := VarE.new_ (show KE w1 x (.slice A x.kids.toList.length c) from HX1.out)
  obtain ⟨g, hg⟩ : ∃ g, w1.heap.size = g := ⟨_, rfl⟩
  obtain ⟨W2, hW2⟩ : ∃ W, w1.alloc (.cells #[.int .i64 x.op, .int .i64 x.n, .string (str x.name), .slice A x.kids.toList.length c] 24) = W := ⟨_, rfl⟩
  rw [hW2] at hb2 hz ⊢
  have HB2 := Lib.hid (bel_call HB1.out hb2)
  rw [hg] at hz ⊢
  have HZ2 := Lib.hid hz
  clear hb2 hz hW2 hg HB1 HX1
  go_wp2_with fail
  refine (scan_any s W2 hs).mono ?_
  rintro e w3 ⟨va, he, ho, hb⟩
  rw [HSC.out] at he ho
  simp only at he ho
  subst he
  have hra := rd_scan ho
  obtain ⟨A3, c3, rfl, _, hml⟩ := hra.form
  unfold maxLen at hml
  have HRA := Lib.hid hra
  have HZ3 := Lib.hid (HZ2.out.next hb)
  have HB3 := Lib.hid (bel_call HB2.out hb)
  clear hb ho hra HZ2 HB2
  by_cases h0 : er = 0
  case neg =>
    have h0' : (er != 0) = true := by rw [bne_iff_ne]; exact h0
    clear h0
    go_wp2_with fail
    refine (awake_any w3 (HV.out.next HB3.out)).mono ?_
    rintro e w4 ⟨he, hb⟩
    subst he
    have HB4 := Lib.hid (bel_call HB3.out hb)
    clear hb
    go_wp2_with fail
    go_ret
    exact ⟨rfl, HB4.out⟩
  obtain rfl := HXL.out h0
  subst h0
  have hok := parseX_ok HR.out
  have HW := Lib.hid hok.2.1
  clear hok
  go_wp2_with fail
  go_loopw [8] (fun t8 wr => ∃ k : Nat, k ≤ xs.length ∧ t8 = .int .i64 k ∧ (∀ y ∈ xs.take k, ¬ (y.kind = 3 ∧ y.text = [33, 61])) ∧ Below w3.heap.size w3 wr) (fun t8 _ => xs.length - (intOf t8).toNat)
  case atStart => exact ⟨0, by omega, rfl, by simp, Below.refl _ _⟩
  case round =>
    obtain ⟨k, hk, rfl, hno, hb⟩ := hrel
    have HN := Lib.hid hno
    have HBR := Lib.hid hb
    have HZR := Lib.hid (HZ3.out.next hb)
    clear hno hb
    by_cases hlt : k < xs.length
    · have hx : xs[k]? = some xs[k] := List.getElem?_eq_getElem hlt
      have htk := List.take_succ_eq_append_getElem hlt
      obtain ⟨y, hye⟩ : ∃ y, xs[k] = y := ⟨_, rfl⟩
      rw [hye] at hx htk
      obtain ⟨b, o, rfl, hbl, q0, q1, _, _⟩ := (rdLx_next HRA.out HBR.out).at_ hx
      have HTK := Lib.hid htk
      clear hx htk hye hbl
      by_cases hkk : y.kind = 3
      · have hk1 : (y.kind == 3) = true := by rw [beq_iff_eq]; exact hkk
        by_cases htt : y.text = [33, 61]
        · have ht1 : ((str y.text).toList == [33, 61]) = true := by rw [toList_bts, bts_str, htt]; rfl
          clear htt hkk
          go_wp2_with fail
          refine (awake_any wr (HV.out.next (bel_call HB3.out HBR.out))).mono ?_
          rintro e w4 ⟨he, hb⟩
          subst he
          have HB4 := Lib.hid (bel_call (bel_call HB3.out HBR.out) hb)
          clear hb
          go_wp2_with fail
          go_ret
          exact ⟨rfl, HB4.out⟩
        · have ht1 : ((str y.text).toList == [33, 61]) = false := by rw [toList_bts, bts_str, beq_eq_false_iff_ne]; exact htt
          have HNN := Lib.hid (show ∀ z ∈ xs.take (k + 1), ¬ (z.kind = 3 ∧ z.text = [33, 61]) from fun z hz => by
            rw [HTK.out] at hz
            rcases List.mem_append.1 hz with hz | hz
            · exact HN.out z hz
            · rw [List.mem_singleton.1 hz]; exact fun hh => htt hh.2)
          clear htt hkk
          go_wp2_with fail
          exact ⟨⟨k + 1, by omega, by go_num, HNN.out, HBR.out⟩, by simp [intOf]; omega⟩
      · have hk1 : (y.kind == 3) = false := by rw [beq_eq_false_iff_ne]; exact hkk
        have HNN := Lib.hid (show ∀ z ∈ xs.take (k + 1), ¬ (z.kind = 3 ∧ z.text = [33, 61]) from fun z hz => by
          rw [HTK.out] at hz
          rcases List.mem_append.1 hz with hz | hz
          · exact HN.out z hz
          · rw [List.mem_singleton.1 hz]; exact fun hh => hkk hh.1)
        clear hkk
        go_wp2_with fail
        exact ⟨⟨k + 1, by omega, by go_num, HNN.out, HBR.out⟩, by simp [intOf]; omega⟩
    · have hkl : k = xs.length := by omega
      subst hkl
      have hsl := short_law HR.out (fun y hy => by rw [HSC.out] at hy; exact HN.out y (by rw [List.take_length]; exact hy))
      rw [HSC.out] at hsl
      obtain ⟨f0, f1, f2, f3⟩ := HZR.out.cells
      have HBW := Lib.hid (bel_call HB3.out HBR.out)
      obtain ⟨zs, er3, at3, hz3⟩ : ∃ zs er3 at3, scanP (exprP x) = (zs, er3, at3) := ⟨_, _, _, rfl⟩
      rw [hz3] at hsl
      obtain ⟨he3, hl1, hl2⟩ := hsl
      simp only at he3 hl1 hl2
      subst he3
      have HZ3' := Lib.hid hz3
      have hss : (str (exprP x)).size ≤ 9223372036854775807 := by
        have := tx_len8 HW.out
        rw [size_str, exprP, if_pos HW.out]
        omega
      clear hz3 HN
      go_wp2_with fail
      refine (expr_any x (well_nm HW.out) A c wr (HV.out.next HBW.out) HZR.out.2).mono ?_
      rintro e w5 ⟨he, hb⟩
      subst he
      have HB5 := Lib.hid (bel_call HBW.out hb)
      clear hb f0 f1 f2 f3
      go_wp2_with fail
      refine (scan_any (str (exprP x)) w5 hss).mono ?_
      rintro e w6 ⟨vb, he, ho, hb⟩
      rw [bts_str, HZ3'.out] at he ho
      simp only at he ho
      subst he
      have hrb := rd_scan ho
      obtain ⟨A6, c6, rfl, _, hml6⟩ := hrb.form
      unfold maxLen at hml6
      have HB6 := Lib.hid (bel_call HB5.out hb)
      clear hb ho hrb
      have g1 : (1 : Int) < (zs.length : Int) := by omega
      have g2 : (zs.length : Int) ≤ (xs.length : Int) := by omega
      go_wp2_with fail
      refine (awake_any w6 (HV.out.next HB6.out)).mono ?_
      rintro e w7 ⟨he, hb⟩
      subst he
      have HB7 := Lib.hid (bel_call HB6.out hb)
      clear hb
      go_wp2_with fail
      go_ret
      exact ⟨rfl, HB7.out⟩

end Go.Proofs.YtkalkglllgebkaaDoor
