/-
  The law's function small; WoodFinds walked.
-/
import Derived.Test.YtadflenmdfcflaaDoorWLaw1
import Derived.Test.YtadflenmdfcflaaDoorGuard
namespace Saw
def smallP (l : List Sp) : Bool := decide (l.length ≤ 20) && l.all fun x => decide (x.name.length ≤ 100)
theorem find_self {l : List Sp} {k : Nat} {x : Sp} (hx : l[k]? = some x) (h : findSp (l.take k) x.name = none) : findSp l x.name = some x := by
  have hk := List.getElem?_eq_some_iff.1 hx
  rw [← List.take_append_drop k l, findSp, List.find?_append, show (l.take k).find? (fun y => y.name == x.name) = none from h, List.drop_eq_getElem_cons hk.1, hk.2]
  simp
theorem find_any_eq (l : List Sp) (n : List UInt8) : (findSp l n).isSome = l.any fun x => x.name == n := by
  rw [findSp, Bool.eq_iff_iff, List.find?_isSome]
  simp
end Saw
namespace Go.Proofs.YtadflenmdfcflaaDoor
open Go.RowKit Saw Go.Sort

theorem all_drop {l : List Sp} {k : Nat} {x : Sp} {p : Sp → Bool} {r : Bool} (hx : l[k]? = some x) (h : (l.drop k).all p = r) : (p x && (l.drop (k + 1)).all p) = r := by
  have hk := List.getElem?_eq_some_iff.1 hx
  rw [List.drop_eq_getElem_cons hk.1, hk.2, List.all_cons] at h
  exact h

set_option maxHeartbeats 400000 in
theorem small_any (A : Option Addr) (n c : Nat) (l : List Sp) (w : World) (hrd : RdSp w (.slice A n c) l) (hok : ∀ x ∈ l, x.name.length ≤ 9223372036854775807) :
    Calls Tryd.prog 11 #[.slice A n c] w fun e w' => e = .returned (.bool (smallP l)) ∧ w = w' := by
  obtain ⟨_, _, he, hc, hml⟩ := hrd.form
  injection he with e1 e2 e3
  subst e1 e2 e3
  unfold maxLen at hml
  obtain ⟨r, hr⟩ : ∃ r, smallP l = r := ⟨_, rfl⟩
  rw [hr]
  unfold smallP at hr
  by_cases h20 : 20 < l.length
  · have hrf : r = false := by rw [← hr, decide_eq_false (by omega)]; rfl
    subst hrf
    clear hr hrd hok
    go_enter Tryd.func11, Tryd.ntmps11
    go_wp2_with fail
    go_ret
    exact ⟨rfl, rfl⟩
  · rw [decide_eq_true (by omega), Bool.true_and] at hr
    have HR := Lib.hid hr
    have HRD := Lib.hid hrd
    have HOK := Lib.hid hok
    clear hr hrd hok
    go_enter Tryd.func11, Tryd.ntmps11
    go_wp2_with fail
    go_loop [3] (fun i => ∃ k : Nat, k ≤ l.length ∧ i = .int .i64 k ∧ ((l.drop k).all fun x => decide (x.name.length ≤ 100)) = r) (fun i => l.length - (intOf i).toNat)
    case atStart => exact ⟨0, by omega, rfl, HR.out⟩
    case round =>
      obtain ⟨k, hk, rfl, hrk⟩ := hrel
      by_cases hlt : k < l.length
      · have hx : l[k]? = some l[k] := List.getElem?_eq_getElem hlt
        obtain ⟨x, hxe⟩ : ∃ x, l[k] = x := ⟨_, rfl⟩
        have hxn : x.name.length ≤ 9223372036854775807 := HOK.out x (by rw [← hxe]; exact List.getElem_mem hlt)
        rw [hxe] at hx
        obtain ⟨b, off, rfl, hbl, hrg⟩ := RdSp.at_ HRD.out hx
        have hc0 := hrg 0 _ (spC0 x)
        rw [Nat.add_zero] at hc0
        have HST := Lib.hid (all_drop hx hrk)
        have hsz : (str x.name).size = x.name.length := size_str _
        clear hxe hx hrk hrg
        by_cases h100 : 100 < x.name.length
        · have hrf : r = false := by rw [← HST.out, decide_eq_false (by omega)]; rfl
          subst hrf
          go_wp2_with fail
          go_ret
          exact ⟨rfl, rfl⟩
        · have HN := Lib.hid (show ((l.drop (k + 1)).all fun x => decide (x.name.length ≤ 100)) = r by have h9 := HST.out; rw [decide_eq_true (by omega), Bool.true_and] at h9; exact h9)
          go_wp2_with fail
          exact ⟨⟨k + 1, by omega, by go_num, HN.out⟩, by simp [intOf]; omega⟩
      · have hrt : r = true := by rw [← hrk, List.drop_eq_nil_of_le (by omega)]; rfl
        subst hrt
        clear hrk HR
        go_wp2_with fail
        go_ret
        exact ⟨rfl, rfl⟩

end Go.Proofs.YtadflenmdfcflaaDoor
