/-
  The law's function awake (chapter 19).
-/
import Derived.Test.YtokgonpeolppnaaDoorPrN
namespace Go.Proofs.YtokgonpeolppnaaDoor
open Go.RowKit Saw Go.Sort

theorem own_plank {w W : World} {A1 A2 : Option Addr} (h1 : RdI w w.heap.size (.slice A1 1 1) plankQ.lens) (h2 : RdI w w.heap.size (.slice A2 1 1) plankQ.prices) (hW : w.alloc (.cells (prsCells [(plankQ, .slice A1 1 1, .slice A2 1 1)]).toArray 29) = W) :
    RdPr W W.heap.size (.slice (some ⟨w.heap.size, 0, none⟩) 1 1) [plankQ] ∧ Below w.heap.size w W := by
  have b1 : Below w.heap.size w W := by rw [← hW]; exact (Below.refl _ _).alloc (Nat.le_refl _) _
  have h3 := Rd.of_own (ownsRow_new (w := w) (base := w.heap.size) (len := 1) (size := 7) (e := 29) (cs := prsCells [(plankQ, .slice A1 1 1, .slice A2 1 1)]) (Nat.le_refl _) rfl (by decide))
  rw [hW] at h3
  refine ⟨⟨[(plankQ, .slice A1 1 1, .slice A2 1 1)], rfl, h3, fun y hy => ?_⟩, b1⟩
  rw [List.mem_singleton.1 hy]
  exact ⟨h1.next b1, h2.next b1⟩

set_option maxRecDepth 100000 in
set_option maxHeartbeats 1000000 in
theorem awakeP_any (w : World) (hv : VarsP w) : Calls Tryd.prog 15 #[] w (LawP w) := by
  have HV := Lib.hid hv
  clear hv
  go_enter Tryd.func15, Tryd.ntmps15
  go_wp2_with fail
  refine (plankQ_any _).mono ?_
  rintro e w1 ⟨rfl, _, _, hb1⟩
  have HB1 := Lib.hid hb1
  clear hb1
  go_wp2_with fail
  refine (green_any plankQ _ _ _ _ _ _ _).mono ?_
  rintro e w2 ⟨he, hb2⟩
  rw [aw_green] at he
  subst he
  have HB2 := Lib.hid (HB1.out.trans (hb2.mono HB1.out.size))
  clear hb2 HB1
  go_wp2_with fail
  refine (parse_pr _ _ (by decide)).mono ?_
  rintro e w3 ⟨v, he, hrd, hb3⟩
  rw [show bts ⟨#[112, 114, 111, 100, 117, 99, 116, 32, 97, 32, 50, 53, 32, 120, 32, 49, 48, 48, 32, 97, 108, 108, 111, 119, 32, 48, 32, 119, 97, 110, 101, 32, 49, 48, 48, 58, 32, 49, 48, 48, 48, 32, 64, 32, 49, 48, 44, 32, 50, 48, 48, 48, 32, 64, 32, 50, 53, 59]⟩ = awS1 from rfl, aw_p1] at he hrd
  obtain ⟨A, c, rfl, _, _⟩ := hrd.form
  subst he
  have HRD := Lib.hid (show RdPr w3 w3.heap.size (.slice A 1 c) [prA] from hrd)
  have HB3 := Lib.hid (HB2.out.trans (hb3.mono HB2.out.size))
  clear hb3 hrd HB2
  go_wp2_with fail
  refine (parse_pr _ _ (by decide)).mono ?_
  rintro e w4 ⟨v4, he, _, hb4⟩
  rw [show bts ⟨#[112, 114, 111, 100, 117, 99, 116, 32, 97, 32, 50, 53, 32, 121]⟩ = awS2 from rfl, aw_p2] at he
  subst he
  have hrd4 := HRD.out.next hb4
  have HB4 := Lib.hid (HB3.out.trans (hb4.mono HB3.out.size))
  obtain ⟨b, off, A1, c1, A2, c2, rfl, hbl, _, _, hri, hrp, q0, q1, q2, q3, q4, q5, q6⟩ := RdPr.at_ hrd4 (i := 0) (x := prA) rfl
  rw [Nat.zero_mul, Nat.add_zero] at q0 q1 q2 q3 q4 q5 q6
  have HRD4 := Lib.hid hrd4
  have HRI4 := Lib.hid hri
  have HRP4 := Lib.hid hrp
  have hz4 : ((prA.lens.length : Int) != 2) = false := by decide
  clear hb4 hrd4 HRD HB3 hri hrp
  go_wp2_with fail
  refine (price_any prA A1 A2 c1 c2 2000 _ HRI4.out HRP4.out).mono ?_
  rintro e w5 ⟨he, hb5⟩
  rw [aw_price] at he
  subst he
  have HRD5 := Lib.hid (HRD4.out.next hb5)
  have HB5 := Lib.hid (HB4.out.trans (hb5.mono HB4.out.size))
  clear hb5 q0 q1 q2 q3 q4 q5 q6 HRI4 HRP4 HRD4 HB4
  go_wp2_with fail
  refine (prFind_any [prA] _ [97] _ HRD5.out).mono ?_
  rintro e w6 ⟨he, hb6⟩
  rw [aw_find] at he
  subst he
  have HRD6 := Lib.hid (HRD5.out.next hb6)
  have HB6 := Lib.hid (HB5.out.trans (hb6.mono HB5.out.size))
  clear hb6 HRD5 HB5
  go_wp2_with fail
  refine (plankQ_any _).mono ?_
  rintro e w7 ⟨rfl, _, _, hb7⟩
  have HRD7 := Lib.hid (HRD6.out.next hb7)
  have HB7 := Lib.hid (HB6.out.trans (hb7.mono HB6.out.size))
  clear hb7 HRD6 HB6
  go_wp2_with fail
  refine (volume_any plankQ _ _ _ _ _ _ 1000 _).mono ?_
  rintro e w8 ⟨he, hb8⟩
  rw [aw_vol] at he
  subst he
  have HRD8 := Lib.hid (HRD7.out.next hb8)
  have HB8 := Lib.hid (HB7.out.trans (hb8.mono HB7.out.size))
  clear hb8 HRD7 HB7
  go_wp2_with fail
  refine (prCheck_any [prA] _ _ HRD8.out (by decide)).mono ?_
  rintro e w9 ⟨he, hb9⟩
  rw [aw_check] at he
  subst he
  have HB9 := Lib.hid (HB8.out.trans (hb9.mono HB8.out.size))
  clear hb9 HRD8 HB8
  go_wp2_with fail
  refine (plankQ_any _).mono ?_
  rintro e wA ⟨rfl, hl, hp, hbA⟩
  obtain ⟨W, hW⟩ : ∃ W, wA.alloc (.cells (prsCells [(plankQ, .slice (some ⟨w9.heap.size + 1, 0, none⟩) 1 1, .slice (some ⟨w9.heap.size + 2, 0, none⟩) 1 1)]).toArray 29) = W := ⟨_, rfl⟩
  obtain ⟨hrdW, hbW⟩ := own_plank hl hp hW
  have HW := Lib.hid (show wA.alloc (.cells #[.string (str plankQ.name), .int .i64 plankQ.thick, .int .i64 plankQ.width, .int .i64 plankQ.allow, .int .i64 plankQ.wane, .slice (some ⟨w9.heap.size + 1, 0, none⟩) 1 1, .slice (some ⟨w9.heap.size + 2, 0, none⟩) 1 1] 29) = W from hW)
  have HRDW := Lib.hid hrdW
  have HBW := Lib.hid (HB9.out.trans ((hbA.trans (hbW.mono hbA.size)).mono HB9.out.size))
  clear hl hp hbA hW hrdW hbW HB9
  go_wp2_with fail
  rw [HW.out]
  refine (prFormat_any [plankQ] _ _ HRDW.out (by decide) (HV.out.below HBW.out).1 (HV.out.below HBW.out).2).mono ?_
  rintro e wB ⟨he, hbB⟩
  rw [aw_fmt] at he
  subst he
  have HBB := Lib.hid (HBW.out.trans (hbB.mono HBW.out.size))
  have hpe : ((str awS3).toList == [112, 114, 111, 100, 117, 99, 116, 32, 112, 108, 97, 110, 107, 32, 52, 48, 32, 120, 32, 49, 48, 48, 32, 97, 108, 108, 111, 119, 32, 53, 48, 32, 119, 97, 110, 101, 32, 48, 58, 32, 50, 48, 48, 48, 32, 64, 32, 55, 48, 59, 10]) = true := by rw [toList_bts, bts_str]; kernel_rfl
  clear hbB
  go_wp2_with fail
  go_ret
  exact ⟨rfl, HBB.out⟩

end Go.Proofs.YtokgonpeolppnaaDoor
