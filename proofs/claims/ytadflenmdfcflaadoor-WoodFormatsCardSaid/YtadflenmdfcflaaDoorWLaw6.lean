/-
  WoodFormats walked.
-/
import Derived.Test.YtadflenmdfcflaaDoorWLaw4
import Derived.Test.YtadflenmdfcflaaDoorWRefZ
namespace Go.Proofs.YtadflenmdfcflaaDoor
open Go.RowKit Saw Go.Sort

set_option maxRecDepth 100000 in
set_option maxHeartbeats 2000000 in
theorem woodFormats_walk (A : Option Addr) (n c : Nat) (l : List Sp) (w : World) (h : RdSp w (.slice A n c) l ∧ ∀ x ∈ l, SpOk x) (hv : Vars w) :
    Calls Tryd.prog 5 #[.slice A n c] w (LawPost w) := by
  obtain ⟨hrd, hok⟩ := h
  obtain ⟨_, _, he, hc, hml⟩ := hrd.form
  injection he with e1 e2 e3
  subst e1 e2 e3
  unfold maxLen at hml
  have HRD := Lib.hid hrd
  have HOK := Lib.hid (show ∀ x ∈ l, x.name.length ≤ 9223372036854775807 from fun x hx => by have := (hok x hx).1; unfold maxLen at this; omega)
  have HV := Lib.hid hv
  clear hrd hok hv
  go_enter Tryd.func5, Tryd.ntmps5
  go_wp2_with fail
  refine (small_any _ _ _ l _ HRD.out HOK.out).mono ?_
  rintro e w0 ⟨he, rfl⟩
  cases hsm : smallP l with
  | false =>
    rw [hsm] at he
    subst he
    clear hsm
    go_wp2_with fail
    refine (awake_any _ HV.out).mono ?_
    rintro e w1 ⟨rfl, hb1⟩
    have HB1 := Lib.hid hb1
    clear hb1
    go_wp2_with fail
    go_ret
    exact ⟨rfl, HB1.out⟩
  | true =>
    rw [hsm] at he
    subst he
    obtain ⟨h20, hnm⟩ := small_names hsm
    have HNM := Lib.hid (show ∀ x ∈ l, x.name.length ≤ 1000000 from fun x hx => Nat.le_trans (hnm x hx) (by omega))
    obtain ⟨r, hr⟩ : ∃ r, formatSp l = r := ⟨_, rfl⟩
    have HR := Lib.hid hr
    have hrr : ((str r).toList == (str r).toList) = true := beq_self_eq_true _
    clear hsm hnm hr
    go_wp2_with fail
    refine (format_any l _ _ HRD.out HNM.out HV.out.1 HV.out.2.1 HV.out.2.2).mono ?_
    rintro e w1 ⟨he, hb1⟩
    rw [HR.out] at he
    subst he
    have HB1 := Lib.hid hb1
    clear hb1
    go_wp2_with fail
    refine (refFormat_any l _ _ (HRD.out.next HB1.out) HNM.out).mono ?_
    rintro e w2 ⟨he, hb2⟩
    rw [HR.out] at he
    subst he
    have HB2 := Lib.hid (HB1.out.trans (hb2.mono HB1.out.size))
    clear hb2
    go_wp2_with fail
    refine (awake_any _ (HV.out.below HB2.out)).mono ?_
    rintro e w3 ⟨rfl, hb3⟩
    have HB3 := Lib.hid (HB2.out.trans (hb3.mono HB2.out.size))
    clear hb3
    go_wp2_with fail
    go_ret
    exact ⟨rfl, HB3.out⟩

end Go.Proofs.YtadflenmdfcflaaDoor
