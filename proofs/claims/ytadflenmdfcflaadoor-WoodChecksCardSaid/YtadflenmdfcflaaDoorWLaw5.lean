/-
  WoodChecks walked.
-/
import Derived.Test.YtadflenmdfcflaaDoorWLaw4
import Derived.Test.YtadflenmdfcflaaDoorWRefE
namespace Go.Proofs.YtadflenmdfcflaaDoor
open Go.RowKit Saw Go.Sort

set_option maxRecDepth 100000 in
set_option maxHeartbeats 2000000 in
theorem woodChecks_walk (A : Option Addr) (n c : Nat) (l : List Sp) (nm : ByteArray) (w : World) (h : RdSp w (.slice A n c) l ∧ ∀ x ∈ l, SpOk x) (hn : nm.size ≤ maxLen) (hv : Vars w) :
    Calls Tryd.prog 3 #[.slice A n c, .string nm] w (LawPost w) := by
  obtain ⟨hrd, hok⟩ := h
  obtain ⟨_, _, he, hc, hml⟩ := hrd.form
  injection he with e1 e2 e3
  subst e1 e2 e3
  unfold maxLen at hml hn
  have HRD := Lib.hid hrd
  have HOK := Lib.hid (show ∀ x ∈ l, x.name.length ≤ 9223372036854775807 from fun x hx => by have := (hok x hx).1; unfold maxLen at this; omega)
  have HV := Lib.hid hv
  clear hrd hok hv
  go_enter Tryd.func3, Tryd.ntmps3
  go_wp2_with fail
  refine (small_any _ _ _ l _ HRD.out HOK.out).mono ?_
  rintro e w0 ⟨he, rfl⟩
  cases hsm : smallP l with
  | false =>
    rw [hsm] at he
    subst he
    clear hsm
    go_wp2_with fail
    refine (awake_any _ HV.out).mono ?_
    rintro e w1 ⟨rfl, hb1⟩
    have HB1 := Lib.hid hb1
    clear hb1
    go_wp2_with fail
    go_ret
    exact ⟨rfl, HB1.out⟩
  | true =>
    rw [hsm] at he
    subst he
    obtain ⟨h20, hnm⟩ := small_names hsm
    have HNM := Lib.hid (show ∀ x ∈ l, x.name.length ≤ 1000000 from fun x hx => Nat.le_trans (hnm x hx) (by omega))
    clear hsm hnm
    by_cases h100 : 100 < nm.size
    · go_wp2_with fail
      refine (awake_any _ HV.out).mono ?_
      rintro e w1 ⟨rfl, hb1⟩
      have HB1 := Lib.hid hb1
      clear hb1
      go_wp2_with fail
      go_ret
      exact ⟨rfl, HB1.out⟩
    · obtain ⟨y, hy⟩ : ∃ y, (findSp l (bts nm)).getD Sp.zero = y := ⟨_, rfl⟩
      obtain ⟨q, hq⟩ : ∃ q, (findSp l (bts nm)).isSome = q := ⟨_, rfl⟩
      obtain ⟨r, hr⟩ : ∃ r, checkSp l = r := ⟨_, rfl⟩
      have HY := Lib.hid hy
      have HQ := Lib.hid hq
      have HR := Lib.hid hr
      clear hy hq hr
      go_wp2_with fail
      refine (find_any l _ _ _ HRD.out).mono ?_
      rintro e w1 ⟨he, hb1⟩
      rw [HY.out, HQ.out] at he
      subst he
      have HB1 := Lib.hid hb1
      have hsz1 := hb1.size
      clear hb1
      go_wp2_with (first
        | ((with_reducible refine sp_alloc ?_); intro c7 H7)
        | ((with_reducible refine sp_new y w1.heap.size ?hx rfl ?hy H7 ?_); (case hx => rfl); (case hy => rfl)))
      have HBa := Lib.hid (HB1.out.alloc hsz1 (.cells (spCells y).toArray 26))
      refine (refFind_any l _ _ _ (HRD.out.next HBa.out)).mono ?_
      rintro e w2 ⟨he, hb2⟩
      rw [HY.out, HQ.out] at he
      subst he
      have HB2 := Lib.hid (HBa.out.trans (hb2.mono HBa.out.size))
      have hs12 : w1.heap.size < w2.heap.size := by have := hb2.size; rw [World.size_alloc] at this; omega
      have HR1 := Lib.hid (show w2.rangeAt w1.heap.size 0 (spCells y) from rangeAt_below hb2 (by rw [World.size_alloc]; omega) (rangeAt_block (heap_alloc_last w1 _)))
      clear hb2 H7 c7
      go_wp2_with (first
        | ((with_reducible refine sp_alloc ?_); intro c8 H8)
        | ((with_reducible refine sp_new y w2.heap.size ?hx rfl ?hy H8 ?_); (case hx => rfl); (case hy => rfl)))
      have HBb := Lib.hid (HB2.out.alloc HB2.out.size (.cells (spCells y).toArray 26))
      refine (check_any l _ _ (HRD.out.next HBb.out) HNM.out).mono ?_
      rintro e w3 ⟨he, hb3⟩
      rw [HR.out] at he
      subst he
      have HB3 := Lib.hid (HBb.out.trans (hb3.mono HBb.out.size))
      have HR13 := Lib.hid (show w3.rangeAt w1.heap.size 0 (spCells y) from rangeAt_below hb3 (by rw [World.size_alloc]; omega) (rangeAt_alloc hs12 HR1.out _))
      have HR23 := Lib.hid (show w3.rangeAt w2.heap.size 0 (spCells y) from rangeAt_below hb3 (by rw [World.size_alloc]; omega) (rangeAt_block (heap_alloc_last w2 _)))
      have hs23 : w2.heap.size < w3.heap.size := by have := hb3.size; rw [World.size_alloc] at this; omega
      clear hb3 H8 c8
      go_wp2_with fail
      refine (refCheck_any l _ _ (HRD.out.next HB3.out) HNM.out).mono ?_
      rintro e w4 ⟨he, hb4⟩
      rw [HR.out] at he
      subst he
      have HB4 := Lib.hid (HB3.out.trans (hb4.mono HB3.out.size))
      have HR14 := Lib.hid (rangeAt_below hb4 (by omega) HR13.out)
      have HR24 := Lib.hid (rangeAt_below hb4 (by omega) HR23.out)
      clear hb4
      have hrr : (r == r) = true := beq_self_eq_true r
      have hqq : (q == q) = true := beq_self_eq_true q
      have heq : ∀ W, (binOp .eql 26 (.agg (spCells y).toArray) (.agg (spCells y).toArray)).run Tryd.prog W = .ok (.bool true) W := fun W => by rw [eql_sp]; rw [decide_eq_true rfl]
      have hgd := fun W x' y' xs ys => run_eqGuard_agg (P := Tryd.prog) W .eql 26 x' y' xs ys guard_sp
      go_wp2_with (first
        | ((with_reducible refine wpList_gload w1.heap.size 0 (spCells y) ?hw ?hx HR14.out Tryd.underlying26 ?hd ?hi ?_); (case hi => exact sp_info); (case hx => rfl); (case hw => (try simp only [hrr]); kernel_rfl); (case hd => rfl))
        | ((with_reducible refine wpList_gload w2.heap.size 0 (spCells y) ?hw ?hx HR24.out Tryd.underlying26 ?hd ?hi ?_); (case hi => exact sp_info); (case hx => rfl); (case hw => (try simp only [hrr]); kernel_rfl); (case hd => rfl)))
      clear heq hgd
      refine (standard_any _).mono ?_
      rintro e w5 ⟨v5, rfl, hown5, hb5⟩
      have HB5 := Lib.hid (HB4.out.trans (hb5.mono HB4.out.size))
      have hrd5 : RdSp w5 v5 stdSp := Rd.of_own hown5
      have HD5 := Lib.hid hrd5
      clear hown5 hb5 hrd5
      go_wp2_with fail
      refine (refStd_any _).mono ?_
      rintro e w6 ⟨v6, rfl, hown6, hb6⟩
      have HB6 := Lib.hid (HB5.out.trans (hb6.mono HB5.out.size))
      have hrd6 : RdSp w6 v6 stdSp := Rd.of_own hown6
      have HD6 := Lib.hid hrd6
      have HD56 := Lib.hid (HD5.out.next hb6)
      clear hown6 hb6 hrd6
      go_wp2_with fail
      refine (refSame_any stdSp stdSp v5 v6 _ HD56.out HD6.out).mono ?_
      rintro e w7 ⟨he, hb7⟩
      rw [decide_eq_true rfl] at he
      subst he
      have HB7 := Lib.hid (HB6.out.trans (hb7.mono HB6.out.size))
      clear hb7
      go_wp2_with fail
      refine (awake_any _ (HV.out.below HB7.out)).mono ?_
      rintro e w8 ⟨rfl, hb8⟩
      have HB8 := Lib.hid (HB7.out.trans (hb8.mono HB7.out.size))
      clear hb8
      go_wp2_with fail
      go_ret
      exact ⟨rfl, HB8.out⟩

end Go.Proofs.YtadflenmdfcflaaDoor
