/-
  WoodParses walked.
-/
import Derived.Test.YtadflenmdfcflaaDoorWLaw4
import Derived.Test.YtadflenmdfcflaaDoorWRefW
namespace Go.Proofs.YtadflenmdfcflaaDoor
open Go.RowKit Saw Go.Sort

set_option maxRecDepth 100000 in
set_option maxHeartbeats 2000000 in
theorem woodParses_walk (s : ByteArray) (w : World) (hs : s.size ≤ maxLen) (hv : Vars w) :
    Calls Tryd.prog 6 #[.string s] w (LawPost w) := by
  have hs1 : s.size ≤ 9223372036854775807 := by unfold maxLen at hs; omega
  have HV := Lib.hid hv
  clear hv hs
  by_cases hlt : 10000 < s.size
  · go_enter Tryd.func6, Tryd.ntmps6
    go_wp2_with fail
    refine (awake_any _ HV.out).mono ?_
    rintro e w1 ⟨rfl, hb1⟩
    have HB1 := Lib.hid hb1
    clear hb1
    go_wp2_with fail
    go_ret
    exact ⟨rfl, HB1.out⟩
  · obtain ⟨l, er, at_, hr⟩ : ∃ l er at_, parseSp (bts s) = (l, er, at_) := ⟨_, _, _, rfl⟩
    have HR := Lib.hid hr
    have he1 : (er == er) = true := beq_self_eq_true _
    have he2 : (at_ == at_) = true := beq_self_eq_true _
    clear hr
    go_enter Tryd.func6, Tryd.ntmps6
    go_wp2_with fail
    refine (parse_any s _ hs1 HV.out.1 (Nat.lt_of_lt_of_le (by decide) HV.out.2.2)).mono ?_
    rintro e w1 ⟨v1, he, ho1, hb1⟩
    rw [HR.out] at he ho1
    subst he
    have HO1 := Lib.hid ho1
    have HB1 := Lib.hid hb1
    have hsz1 := hb1.size
    clear ho1 hb1
    go_wp2_with fail
    refine (refParse_any s _ hs1).mono ?_
    rintro e w2 ⟨v2, he, ho2, hb2⟩
    rw [HR.out] at he ho2
    subst he
    have HO2 := Lib.hid ho2
    have HO1b := Lib.hid (show OwnsSp w2 w.heap.size v1 l from ownsRow_below HO1.out hb2)
    have HB2 := Lib.hid (HB1.out.trans (hb2.mono hsz1))
    have hsz2 : w.heap.size ≤ w2.heap.size := Nat.le_trans hsz1 hb2.size
    clear ho2 hb2
    go_wp2_with fail
    refine (refSame_any l l v1 v2 _ (Rd.of_own HO1b.out) (Rd.of_own HO2.out)).mono ?_
    rintro e w3 ⟨he, hb3⟩
    rw [decide_eq_true rfl] at he
    subst he
    have HB3 := Lib.hid (HB2.out.trans (hb3.mono hsz2))
    have hsz3 : w.heap.size ≤ w3.heap.size := Nat.le_trans hsz2 hb3.size
    clear hb3
    go_wp2_with fail
    refine (awake_any _ (HV.out.below HB3.out)).mono ?_
    rintro e w4 ⟨rfl, hb4⟩
    have HB4 := Lib.hid (HB3.out.trans (hb4.mono hsz3))
    clear hb4
    go_wp2_with fail
    go_ret
    exact ⟨rfl, HB4.out⟩

end Go.Proofs.YtadflenmdfcflaaDoor
