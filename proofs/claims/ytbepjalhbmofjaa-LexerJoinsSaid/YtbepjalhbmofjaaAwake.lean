/-
  The law's function awake returns true.
-/
import Derived.Test.YtbepjalhbmofjaaLexH
namespace Go.Proofs.Ytbepjalhbmofjaa
open Go.RowKit Saw

theorem sc1 : scanP [97, 60, 61, 49, 50, 32, 35, 32, 120] = ([⟨1, [97], 0, 0⟩, ⟨3, [60, 61], 0, 1⟩, ⟨2, [49, 50], 12, 3⟩, ⟨0, [], 0, 9⟩], 0, 0) := by kernel_rfl
theorem sc2 : scanP [97, 32, 37, 32, 98] = ([], 5, 2) := by kernel_rfl
theorem sc3 : scanP [49, 46, 46, 46] = ([], 5, 3) := by kernel_rfl
def lx1 : List Lx := [⟨1, [97], 0, 0⟩, ⟨3, [60, 61], 0, 1⟩, ⟨2, [49, 50], 12, 3⟩, ⟨0, [], 0, 9⟩]
theorem pr1 : printP lx1 = [97, 32, 60, 61, 32, 49, 50] := by kernel_rfl

/-- Scan of a constant text, its result known. -/
theorem scan_at (l : List UInt8) (xs : List Lx) (er at_ : Int) (w : World) (hn : l.length ≤ 9000) (h : scanP l = (xs, er, at_)) :
    Calls Try.prog 11 #[.string ⟨l.toArray⟩] w fun e w' => ∃ A c, e = .returned (.tuple #[.slice A xs.length c, .int .i64 er, .int .i64 at_]) ∧ RdLx w' (.slice A xs.length c) xs ∧ Below w.heap.size w w' := by
  have hl : bts ⟨l.toArray⟩ = l := bts_str l
  refine (scan_any ⟨l.toArray⟩ w (by rw [size_bts, hl]; omega)).mono ?_
  rintro e w' ⟨v, he, hown, hb⟩
  rw [hl, h] at he hown
  have hrd : RdLx w' v xs := Rd.of_own hown
  obtain ⟨A, c, rfl, _, _⟩ := hrd.form
  exact ⟨A, c, he, hrd, hb⟩

theorem RdLx.next {w w' : World} {v : Value} {l : List Lx} (h : RdLx w v l) (hb : Below w.heap.size w w') : RdLx w' v l := Rd.next h hb

theorem lx1_rd (w : World) : RdLx (w.alloc (.cells #[.int .i64 1, .string ⟨#[97]⟩, .int .i64 0, .int .i64 0, .int .i64 3, .string ⟨#[60, 61]⟩, .int .i64 0, .int .i64 1, .int .i64 2, .string ⟨#[49, 50]⟩, .int .i64 12, .int .i64 3, .int .i64 0, .string ⟨#[]⟩, .int .i64 0, .int .i64 9] 32)) (.slice (some ⟨w.heap.size, 0, none⟩) 4 4) lx1 := by
  refine ⟨rfl, by decide, _, _, rfl, Nat.le_refl _, fun _ => ⟨w.heap.size, 0, rfl, by simp, fun j u hu => ?_⟩⟩
  rw [World.cell?_alloc_at _ _ _ _ rfl, Nat.zero_add, ← hu, List.getElem?_toArray]
  rfl

set_option maxHeartbeats 1000000 in
theorem awake_any (w : World) : Calls Try.prog 10 #[] w fun e w' => e = .returned (.bool true) ∧ Below w.heap.size w w' := by
  go_enter Try.func10, Try.ntmps10
  go_wp2_with fail
  refine (scan_at _ _ _ _ _ (by decide) sc1).mono ?_
  rintro e w1 ⟨A, c, rfl, hrd1, hb1⟩
  have HR1 := Lib.hid hrd1
  have HB1 := Lib.hid hb1
  clear hrd1 hb1
  go_wp2_with fail
  refine (scan_at _ _ _ _ _ (by decide) sc2).mono ?_
  rintro e w2 ⟨A2, c2, rfl, _, hb2⟩
  have HR2 := Lib.hid (HR1.out.next hb2)
  have HB2 := Lib.hid (HB1.out.trans (hb2.mono HB1.out.size))
  clear hb2 HR1 HB1
  go_wp2_with fail
  refine (scan_at _ _ _ _ _ (by decide) sc3).mono ?_
  rintro e w3 ⟨A3, c3, rfl, _, hb3⟩
  have HR3 := Lib.hid (HR2.out.next hb3)
  have HB3 := Lib.hid (HB2.out.trans (hb3.mono HB2.out.size))
  clear hb3 HR2 HB2
  go_wp2_with fail
  refine (equal_any _ _ _ _ _ _ lx1 lx1 _ (HR3.out.next ((Below.refl _ _).alloc (Nat.le_refl _) _)) (lx1_rd w3)).mono ?_
  rintro e w4 ⟨rfl, nd, hw4⟩
  have HB4' := Lib.hid (show Below w3.heap.size w3 w4 from hw4 ▸ below_drewN ((Below.refl _ _).alloc (Nat.le_refl _) _) nd)
  clear hw4
  have HR4 := Lib.hid (HR3.out.next HB4'.out)
  have HB4 := Lib.hid (HB3.out.trans (HB4'.out.mono HB3.out.size))
  clear HB4' HR3 HB3
  have heq : decide (lx1 = lx1) = true := by simp
  rw [heq]
  clear heq
  go_wp2_with fail
  refine (print_any _ _ _ lx1 _ HR4.out (by decide) (by rw [pr1]; decide)).mono ?_
  rintro e w5 ⟨he, hb5⟩
  rw [pr1] at he
  have he' : e = .returned (.string ⟨#[97, 32, 60, 61, 32, 49, 50]⟩) := he
  clear he
  subst he'
  have HR5 := Lib.hid (HR4.out.next hb5)
  have HB5 := Lib.hid (HB4.out.trans (hb5.mono HB4.out.size))
  clear hb5 HR4 HB4
  go_wp2_with fail
  refine (same_any _ _ _ _ _ _ lx1 lx1 _ HR5.out HR5.out).mono ?_
  rintro e w6 ⟨he, hb6⟩
  rw [same_refl] at he
  subst he
  have HR6 := Lib.hid (HR5.out.next hb6)
  have HB6 := Lib.hid (HB5.out.trans (hb6.mono HB5.out.size))
  clear hb6 HR5 HB5
  go_wp2_with fail
  refine (same_any _ _ _ _ _ _ lx1 [] _ HR6.out Rd.none_).mono ?_
  rintro e w7 ⟨he, hb7⟩
  rw [show sameP lx1 [] = false from rfl] at he
  subst he
  have HB7 := Lib.hid (HB6.out.trans (hb7.mono HB6.out.size))
  clear hb7 HR6 HB6
  go_wp2_with fail
  refine (isMark_any _ _).mono ?_
  rintro e w8 ⟨he, rfl⟩
  rw [show isMarkP (bts ⟨#[46, 46]⟩) = true from by kernel_rfl] at he
  subst he
  go_wp2_with fail
  refine (isMark_any _ _).mono ?_
  rintro e w8 ⟨he, rfl⟩
  rw [show isMarkP (bts ⟨#[46]⟩) = false from by kernel_rfl] at he
  subst he
  go_wp2_with fail
  go_ret
  exact ⟨rfl, HB7.out⟩

end Go.Proofs.Ytbepjalhbmofjaa
