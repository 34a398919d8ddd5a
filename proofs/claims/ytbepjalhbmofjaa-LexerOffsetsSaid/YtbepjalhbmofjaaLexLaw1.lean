/-
  LexerErrors and LexerAgain and LexerMarks: their walks.
-/
import Derived.Test.YtbepjalhbmofjaaRow
import Derived.Test.YtbepjalhbmofjaaAwake
import Derived.Test.YtbepjalhbmofjaaRefB
import Derived.Test.YtbepjalhbmofjaaLexU
namespace Go.Proofs.Ytbepjalhbmofjaa
open Go.RowKit Saw

/-- Scan of any text, its result named. -/
theorem scan_rd (s : ByteArray) (xs : List Lx) (er off : Int) (w : World) (hs : s.size ≤ 9223372036854775807) (h : scanP (bts s) = (xs, er, off)) :
    Calls Try.prog 11 #[.string s] w fun e w' => ∃ A c, e = .returned (.tuple #[.slice A xs.length c, .int .i64 er, .int .i64 off]) ∧ RdLx w' (.slice A xs.length c) xs ∧ Below w.heap.size w w' := by
  refine (scan_any s w hs).mono ?_
  rintro e w' ⟨v, he, hown, hb⟩
  rw [h] at he hown
  have hrd : RdLx w' v xs := Rd.of_own hown
  obtain ⟨A, c, rfl, _, _⟩ := hrd.form
  exact ⟨A, c, he, hrd, hb⟩

theorem bts_take (s : ByteArray) (k : Nat) : bts (s.extract 0 k) = (bts s).take k := by rw [extract_str, bts_str, List.drop_zero, Nat.sub_zero]
theorem bts_drop (s : ByteArray) (k : Nat) : bts (s.extract k s.size) = (bts s).drop k := by
  rw [extract_str, bts_str, List.take_of_length_le (by rw [List.length_drop, ← size_bts]; omega)]

set_option maxHeartbeats 1000000 in
theorem lexerErrors_walk (s : ByteArray) (hs : s.size ≤ maxLen) (w : World) :
    Calls Try.prog 9 #[.string s] w fun e w' => e = .returned (.bool true) ∧ Below w.heap.size w w' := by
  unfold maxLen at hs
  by_cases hl : 3000 < s.size
  · go_enter Try.func9, Try.ntmps9
    go_wp2_with fail
    refine (awake_any _).mono ?_
    rintro e w1 ⟨rfl, hb1⟩
    go_wp2_with fail
    go_ret
    exact ⟨rfl, hb1⟩
  · have hsz := size_bts s
    have heq := scanP_eq (bts s) (by omega)
    by_cases h0 : (scanS (bts s) 0).2.1 = 0
    · obtain ⟨xs, hx, _⟩ := scanS_ne _ (bts s) 0 (Nat.le_refl _) h0
      have hR : scanP (bts s) = (xs ++ [lxEnd (0 + (bts s).length)], 0, 0) := by
        rw [heq, ← hx]
        exact Prod.ext rfl (Prod.ext h0 (scanS_zero _ _ h0))
      have HR := Lib.hid hR
      have hxl : 0 < (xs ++ [lxEnd (0 + (bts s).length)]).length := by simp
      obtain ⟨ys, hys⟩ : ∃ ys, xs ++ [lxEnd (0 + (bts s).length)] = ys := ⟨_, rfl⟩
      rw [hys] at HR hxl
      clear hR hx h0 heq hsz hys
      go_enter Try.func9, Try.ntmps9
      go_wp2_with fail
      refine (scan_rd _ _ _ _ _ (by omega) HR.out).mono ?_
      rintro e w1 ⟨A, c, rfl, _, hb1⟩
      have HB1 := Lib.hid hb1
      clear hb1
      go_wp2_with fail
      refine (awake_any _).mono ?_
      rintro e w2 ⟨rfl, hb2⟩
      have HB2 := Lib.hid (HB1.out.trans (hb2.mono HB1.out.size))
      clear hb2
      go_wp2_with fail
      go_ret
      exact ⟨rfl, HB2.out⟩
    · obtain ⟨k, hk1, hk2, hk3, hk4, hk5⟩ := scanS_bad _ (bts s) 0 (Nat.le_refl _) h0
      have herr := scanS_errs _ (bts s) 0 (Nat.le_refl _)
      obtain ⟨er, her⟩ : ∃ er, (scanS (bts s) 0).2.1 = er := ⟨_, rfl⟩
      rw [her] at hk2 hk4 h0 herr
      rw [← hsz] at hk1
      have hR : scanP (bts s) = ([], er, (k : Int)) := by rw [heq, hk2, Int.zero_add]
      have hne : (bts s).drop k ≠ [] := by intro h; rw [List.drop_eq_nil_iff] at h; omega
      obtain ⟨fx, hfx⟩ : ∃ fx, scanP (bts (s.extract 0 k)) = (fx, 0, 0) := by
        rw [bts_take, scanP_eq _ (by rw [List.length_take]; omega)]
        exact ⟨_, Prod.ext rfl (Prod.ext hk5 (scanS_zero _ _ hk5))⟩
      have hgx : scanP (bts (s.extract k s.size)) = ([], er, 0) := by
        rw [bts_drop, scanP_eq _ (by rw [List.length_drop]; omega), scanS_at0 _ hk3 hne (by rw [hk4]; exact h0), hk4]
      have hz1 : (s.extract 0 k).size ≤ 9223372036854775807 := by rw [size_bts, bts_take, List.length_take]; omega
      have hz2 : (s.extract k s.size).size ≤ 9223372036854775807 := by rw [size_bts, bts_drop, List.length_drop]; omega
      have HR := Lib.hid hR
      have HF := Lib.hid hfx
      have HG := Lib.hid hgx
      have hee : (er == er) = true := by simp
      have h0' : (er == 0) = false := by simpa using h0
      have her2 : er = 5 ∨ er = 6 ∨ er = 9 := by omega
      clear hR hfx hgx hk2 hk3 hk4 hk5 h0 herr her heq hsz hne
      have key : ∀ (w1 : World) (A : Option Addr) (c : Nat), True := fun _ _ _ => trivial
      clear key
      rcases her2 with rfl | rfl | rfl
      all_goals
        go_enter Try.func9, Try.ntmps9
        go_wp2_with fail
        refine (scan_rd _ _ _ _ _ (by omega) HR.out).mono ?_
        rintro e w1 ⟨A, c, rfl, _, hb1⟩
        have HB1 := Lib.hid hb1
        clear hb1
        go_wp2_with fail
        refine (scan_rd _ _ _ _ _ hz1 HF.out).mono ?_
        rintro e w2 ⟨A2, c2, rfl, _, hb2⟩
        have HB2 := Lib.hid (HB1.out.trans (hb2.mono HB1.out.size))
        clear hb2
        go_wp2_with fail
        refine (scan_rd _ _ _ _ _ hz2 HG.out).mono ?_
        rintro e w3 ⟨A3, c3, rfl, _, hb3⟩
        have HB3 := Lib.hid (HB2.out.trans (hb3.mono HB2.out.size))
        clear hb3
        go_wp2_with fail
        refine (awake_any _).mono ?_
        rintro e w4 ⟨rfl, hb4⟩
        have HB4 := Lib.hid (HB3.out.trans (hb4.mono HB3.out.size))
        clear hb4
        go_wp2_with fail
        go_ret
        exact ⟨rfl, HB4.out⟩

set_option maxHeartbeats 1000000 in
theorem lexerAgain_walk (s : ByteArray) (hs : s.size ≤ maxLen) (w : World) :
    Calls Try.prog 7 #[.string s] w fun e w' => e = .returned (.bool true) ∧ Below w.heap.size w w' := by
  unfold maxLen at hs
  by_cases hl : 3000 < s.size
  · go_enter Try.func7, Try.ntmps7
    go_wp2_with fail
    refine (awake_any _).mono ?_
    rintro e w1 ⟨rfl, hb1⟩
    go_wp2_with fail
    go_ret
    exact ⟨rfl, hb1⟩
  · have hsz := size_bts s
    have heq := scanP_eq (bts s) (by omega)
    by_cases h0 : (scanS (bts s) 0).2.1 = 0
    · obtain ⟨xs, hx, hok, hlen1, hlen2⟩ := scanS_lexOK _ (bts s) 0 (Nat.le_refl _) h0
      have hkind : ∀ x ∈ xs, x.kind ≠ 0 := fun x hx => (hok x hx).1
      obtain ⟨ys, hys, hsame, htx, hyk⟩ := scanS_again xs hok 0
      have hpr : printP (xs ++ [lxEnd (0 + (bts s).length)]) = Lib.join (xs.map (·.text)) [32] := by rw [printP, texts_of xs hkind]
      have hjl := join_len (xs.map (·.text))
      rw [List.length_map] at hjl
      obtain ⟨t, ht⟩ : ∃ t, Lib.join (xs.map (·.text)) [32] = t := ⟨_, rfl⟩
      rw [ht] at hpr hys hjl
      have hR : scanP (bts s) = (xs ++ [lxEnd (0 + (bts s).length)], 0, 0) := by
        rw [heq, ← hx]
        exact Prod.ext rfl (Prod.ext h0 (scanS_zero _ _ h0))
      have hT : scanP (bts (str t)) = (ys ++ [lxEnd (0 + t.length)], 0, 0) := by
        rw [bts_str, scanP_eq t (by omega), hys]
      have hpr2 : printP (ys ++ [lxEnd (0 + t.length)]) = t := by rw [printP, texts_of ys hyk, htx, ht]
      have hsm : sameP (xs ++ [lxEnd (0 + (bts s).length)]) (ys ++ [lxEnd (0 + t.length)]) = true := sameP_app _ _ _ _ hsame (by simp [sameP, sameLx, lxEnd])
      have hl1 : (xs ++ [lxEnd (0 + (bts s).length)]).length ≤ 100000 := by simp; omega
      have hl2 : (ys ++ [lxEnd (0 + t.length)]).length ≤ 100000 := by
        have := same_len _ _ hsm
        omega
      obtain ⟨X, hX⟩ : ∃ X, xs ++ [lxEnd (0 + (bts s).length)] = X := ⟨_, rfl⟩
      obtain ⟨Y, hY⟩ : ∃ Y, ys ++ [lxEnd (0 + t.length)] = Y := ⟨_, rfl⟩
      rw [hX] at hR hpr hsm hl1
      rw [hY] at hT hpr2 hsm hl2
      have htl : t.length ≤ 140737488355328 := by omega
      have hst : (str t).size ≤ 9223372036854775807 := by rw [size_str]; omega
      have htt : ((str t).toList == (str t).toList) = true := by simp
      have HR := Lib.hid hR
      have HT := Lib.hid hT
      have HP := Lib.hid hpr
      have HP2 := Lib.hid hpr2
      have HS := Lib.hid hsm
      clear hR hT hpr hpr2 hsm hx hys htx ht heq hsz h0 hjl hX hY hlen1 hlen2
      go_enter Try.func7, Try.ntmps7
      go_wp2_with fail
      refine (scan_rd _ _ _ _ _ (by omega) HR.out).mono ?_
      rintro e w1 ⟨A, c, rfl, hrd1, hb1⟩
      have HRD1 := Lib.hid hrd1
      have HB1 := Lib.hid hb1
      clear hb1 hrd1
      go_wp2_with fail
      refine (print_any _ _ _ X _ HRD1.out hl1 (by rw [HP.out]; exact htl)).mono ?_
      rintro e w2 ⟨he, hb2⟩
      rw [HP.out] at he
      subst he
      have HRD2 := Lib.hid (HRD1.out.next hb2)
      have HB2 := Lib.hid (HB1.out.trans (hb2.mono HB1.out.size))
      clear hb2
      go_wp2_with fail
      refine (scan_rd _ _ _ _ _ hst HT.out).mono ?_
      rintro e w3 ⟨A3, c3, rfl, hrd3, hb3⟩
      have HRY := Lib.hid hrd3
      have HRX := Lib.hid (HRD2.out.next hb3)
      have HB3 := Lib.hid (HB2.out.trans (hb3.mono HB2.out.size))
      clear hb3 hrd3
      go_wp2_with fail
      refine (same_any _ _ _ _ _ _ X Y _ HRX.out HRY.out).mono ?_
      rintro e w4 ⟨he, hb4⟩
      rw [HS.out] at he
      subst he
      have HRY4 := Lib.hid (HRY.out.next hb4)
      have HB4 := Lib.hid (HB3.out.trans (hb4.mono HB3.out.size))
      clear hb4
      go_wp2_with fail
      refine (print_any _ _ _ Y _ HRY4.out hl2 (by rw [HP2.out]; exact htl)).mono ?_
      rintro e w5 ⟨he, hb5⟩
      rw [HP2.out] at he
      subst he
      have HB5 := Lib.hid (HB4.out.trans (hb5.mono HB4.out.size))
      clear hb5
      go_wp2_with fail
      refine (awake_any _).mono ?_
      rintro e w6 ⟨rfl, hb6⟩
      have HB6 := Lib.hid (HB5.out.trans (hb6.mono HB5.out.size))
      clear hb6
      go_wp2_with fail
      go_ret
      exact ⟨rfl, HB6.out⟩
    · obtain ⟨xs, er, off, hR⟩ : ∃ xs er off, scanP (bts s) = (xs, er, off) := ⟨_, _, _, rfl⟩
      have hne : (er != 0) = true := by rw [← heq, hR] at h0; simpa using h0
      have HR := Lib.hid hR
      clear hR h0 heq hsz
      go_enter Try.func7, Try.ntmps7
      go_wp2_with fail
      refine (scan_rd _ _ _ _ _ (by omega) HR.out).mono ?_
      rintro e w1 ⟨A, c, rfl, _, hb1⟩
      have HB1 := Lib.hid hb1
      clear hb1
      go_wp2_with fail
      refine (awake_any _).mono ?_
      rintro e w2 ⟨rfl, hb2⟩
      have HB2 := Lib.hid (HB1.out.trans (hb2.mono HB1.out.size))
      clear hb2
      go_wp2_with fail
      go_ret
      exact ⟨rfl, HB2.out⟩

theorem marks_scan : ∀ m ∈ marks, scanP m = ([⟨3, m, 0, 0⟩, ⟨0, [], 0, m.length⟩], 0, 0) := by decide

set_option maxHeartbeats 1000000 in
theorem lexerMarks_walk (s : ByteArray) (hs : s.size ≤ maxLen) (w : World) :
    Calls Try.prog 5 #[.string s] w fun e w' => e = .returned (.bool true) ∧ Below w.heap.size w w' := by
  unfold maxLen at hs
  by_cases hl : 1000 < s.size
  · go_enter Try.func5, Try.ntmps5
    go_wp2_with fail
    refine (awake_any _).mono ?_
    rintro e w1 ⟨rfl, hb1⟩
    go_wp2_with fail
    go_ret
    exact ⟨rfl, hb1⟩
  · obtain ⟨b, hb⟩ : ∃ b, isMarkP (bts s) = b := ⟨_, rfl⟩
    have HB := Lib.hid hb
    clear hb
    cases b
    · go_enter Try.func5, Try.ntmps5
      go_wp2_with fail
      refine (isMark_any _ _).mono ?_
      rintro e w1 ⟨he, rfl⟩
      rw [HB.out] at he
      subst he
      go_wp2_with fail
      refine (refIsMark_any _ _).mono ?_
      rintro e w1 ⟨he, hb1⟩
      rw [HB.out] at he
      subst he
      have HB1 := Lib.hid hb1
      clear hb1
      go_wp2_with fail
      refine (isMark_any _ _).mono ?_
      rintro e w2 ⟨he, rfl⟩
      rw [HB.out] at he
      subst he
      go_wp2_with fail
      refine (awake_any _).mono ?_
      rintro e w2 ⟨rfl, hb2⟩
      have HB2 := Lib.hid (HB1.out.trans (hb2.mono HB1.out.size))
      clear hb2
      go_wp2_with fail
      go_ret
      exact ⟨rfl, HB2.out⟩
    · have hR := marks_scan (bts s) (by have := HB.out; simpa [isMarkP] using this)
      have HR := Lib.hid hR
      have hstr : str (bts s) = s := str_bts s
      have HSTR := Lib.hid hstr
      clear hR hstr
      go_enter Try.func5, Try.ntmps5
      go_wp2_with fail
      refine (isMark_any _ _).mono ?_
      rintro e w1 ⟨he, rfl⟩
      rw [HB.out] at he
      subst he
      go_wp2_with fail
      refine (refIsMark_any _ _).mono ?_
      rintro e w1 ⟨he, hb1⟩
      rw [HB.out] at he
      subst he
      have HB1 := Lib.hid hb1
      clear hb1
      go_wp2_with fail
      refine (isMark_any _ _).mono ?_
      rintro e w2 ⟨he, rfl⟩
      rw [HB.out] at he
      subst he
      go_wp2_with fail
      refine (scan_rd _ _ _ _ _ (by omega) HR.out).mono ?_
      rintro e w2 ⟨A, c, rfl, hrd, hb2⟩
      obtain ⟨b, off, rfl, _, q0, q1, q2, q3⟩ := hrd.at_ (i := 0) rfl
      simp only [Nat.zero_mul, Nat.add_zero, HSTR.out] at q0 q1 q2 q3
      have HB2 := Lib.hid (HB1.out.trans (hb2.mono HB1.out.size))
      clear hb2 hrd
      have heq := fun W => eql_lx ⟨3, bts s, 0, 0⟩ ⟨3, bts s, 0, 0⟩ W
      have hdc : decide ((⟨3, bts s, 0, 0⟩ : Lx) = ⟨3, bts s, 0, 0⟩) = true := by simp
      simp only [HSTR.out, hdc] at heq
      clear hdc
      go_wp2_with fail
      refine (awake_any _).mono ?_
      rintro e w3 ⟨rfl, hb3⟩
      have HB3 := Lib.hid (HB2.out.trans (hb3.mono HB2.out.size))
      clear hb3
      go_wp2_with fail
      go_ret
      exact ⟨rfl, HB3.out⟩

end Go.Proofs.Ytbepjalhbmofjaa
