/-
  LexerScans returns true for every text: the lexer's Scan and the reference's return the same lexemes, or the same error and offset. No condition beyond the row's own.
-/
import Derived.Test.YtbepjalhbmofjaaRow
import Derived.Test.YtbepjalhbmofjaaAwake
import Derived.Test.YtbepjalhbmofjaaRefC
namespace Go.Proofs.Ytbepjalhbmofjaa
open Go.RowKit Saw

set_option maxHeartbeats 1000000 in
theorem lexerScans_walk (s : ByteArray) (hs : s.size ≤ maxLen) (w : World) :
    Calls Try.prog 3 #[.string s] w fun e w' => e = .returned (.bool true) ∧ Below w.heap.size w w' := by
  unfold maxLen at hs
  by_cases hl : 9000 < s.size
  · go_enter Try.func3, Try.ntmps3
    go_wp2_with fail
    refine (awake_any _).mono ?_
    rintro e w1 ⟨rfl, hb1⟩
    go_wp2_with fail
    go_ret
    exact ⟨rfl, hb1⟩
  · obtain ⟨xs, er, off, hR⟩ : ∃ xs er off, scanP (bts s) = (xs, er, off) := ⟨_, _, _, rfl⟩
    have HR := Lib.hid hR
    clear hR
    go_enter Try.func3, Try.ntmps3
    go_wp2_with fail
    refine (scan_any _ _ (by omega)).mono ?_
    rintro e w1 ⟨v, he, hown, hb1⟩
    rw [HR.out] at he hown
    subst he
    have hrd : RdLx w1 v xs := Rd.of_own hown
    obtain ⟨A, c, rfl, _, _⟩ := hrd.form
    have HRD := Lib.hid hrd
    have HB1 := Lib.hid hb1
    clear hrd hown hb1
    go_wp2_with fail
    refine (refScan_any _ _ (by omega)).mono ?_
    rintro e w2 ⟨v2, he, hown, hb2⟩
    rw [HR.out] at he hown
    subst he
    have hrd : RdLx w2 v2 xs := Rd.of_own hown
    obtain ⟨A2, c2, rfl, _, _⟩ := hrd.form
    have HRD2 := Lib.hid hrd
    have HRD1 := Lib.hid (HRD.out.next hb2)
    have HB2 := Lib.hid (HB1.out.trans (hb2.mono HB1.out.size))
    clear hrd hown hb2 HB1 HRD
    go_wp2_with fail
    refine (equal_any _ _ _ _ _ _ xs xs _ HRD1.out HRD2.out).mono ?_
    rintro e w3 ⟨he, nd, hw⟩
    rw [show decide (xs = xs) = true by simp] at he
    subst he
    have HB3 := Lib.hid (show Below w.heap.size w w3 from hw ▸ below_drewN HB2.out nd)
    clear hw HB2
    have hee : (er == er) = true := by simp
    have hoo : (off == off) = true := by simp
    go_wp2_with fail
    refine (awake_any _).mono ?_
    rintro e w4 ⟨rfl, hb4⟩
    have HB4 := Lib.hid (HB3.out.trans (hb4.mono HB3.out.size))
    clear hb4
    go_wp2_with fail
    go_ret
    exact ⟨rfl, HB4.out⟩

end Go.Proofs.Ytbepjalhbmofjaa
