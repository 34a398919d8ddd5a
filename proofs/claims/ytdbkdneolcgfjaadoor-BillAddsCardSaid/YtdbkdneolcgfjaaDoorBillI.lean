/-
  The law's functions plank, small and awake (chapter 50).
-/
import Derived.Test.YtdbkdneolcgfjaaDoorBillH
namespace Saw
def plankPr : Pr := ⟨[112, 108, 97, 110, 107], 40, 100, 50, 0, [2000, 2500], [70, 90]⟩
def aItems : List It := [⟨0, 2000, 3, 450⟩, ⟨0, 2000, 5, 12500000⟩]
def aTiers : List Ti := [⟨100, 20⟩, ⟨1000, 50⟩]
def aText : List UInt8 := [112, 108, 97, 110, 107, 32, 50, 48, 48, 48, 32, 51, 32, 49, 49, 10, 112, 108, 97, 110, 107, 32, 50, 48, 48, 48, 32, 53, 32, 53, 48, 48, 48, 48, 48, 10, 100, 105, 115, 99, 111, 117, 110, 116, 32, 50, 53, 48, 48, 48, 10, 116, 111, 116, 97, 108, 32, 52, 55, 53, 48, 49, 49, 10]
theorem aw_a1 : amountP [plankPr] ⟨0, 2000, 3, 450⟩ = (11, 0) := by kernel_rfl
theorem aw_a2 : amountP [plankPr] ⟨0, 2000, 1, 62563⟩ = (501, 0) := by kernel_rfl
theorem aw_d : discountP aTiers 999 = (19, 0) := by kernel_rfl
theorem aw_s : sumsP [plankPr] aItems aTiers = ([11, 500000], 500011, 25000, 0) := by kernel_rfl
theorem aw_t : totalP [plankPr] aItems aTiers = (475011, 0) := by rw [totalP, aw_s]; rfl
def lineF (w : List UInt8) (ns : List Int) : List UInt8 := w ++ ns.flatMap (fun n => 32 :: decF 18 n.toNat) ++ [10]
theorem lineF_eq {w : List UInt8} {ns : List Int} (h : ∀ n ∈ ns, 0 ≤ n ∧ n < 10000000000000000000) : lineP w ns = lineF w ns := by
  have : ∀ n ∈ ns, (32 :: Go.Lib.itoa n) = 32 :: decF 18 n.toNat := fun n hn => by rw [itoa_decF n (h n hn).1 (h n hn).2]
  rw [lineP, lineF]
  simp only [List.flatMap]
  rw [List.map_congr_left this]
theorem aw_text : textP [plankPr] aItems aTiers = (aText, 0) := by
  rw [text_of aw_s, if_neg (by simp)]
  have e : segP [plankPr] aItems [11, 500000] aItems.length = lineP plankPr.name [2000, 3, 11] ++ lineP plankPr.name [2000, 5, 500000] := by
    simp [segP, aItems, itemLine]
  rw [e, lineF_eq (w := plankPr.name) (ns := [2000, 3, 11]) (by decide), lineF_eq (w := plankPr.name) (ns := [2000, 5, 500000]) (by decide), lineF_eq (w := discountW) (ns := [25000]) (by decide), show (500011 : Int) - 25000 = 475011 from rfl, lineF_eq (w := totalW) (ns := [475011]) (by decide)]
  show (_ : List UInt8 × Int) = _
  kernel_rfl
def prSmall (x : Pr) : Bool := decide (x.name.length ≤ 100) && decide (x.lens.length ≤ 12) && decide (x.prices.length ≤ 12)
def smallB (c : List Pr) (l : List It) (t : List Ti) : Bool := decide (c.length ≤ 20) && decide (l.length ≤ 100) && decide (t.length ≤ 30) && c.all prSmall
theorem smallB_names {c : List Pr} {l : List It} {t : List Ti} (h : smallB c l t = true) : c.length ≤ 20 ∧ l.length ≤ 100 ∧ t.length ≤ 30 ∧ ∀ x ∈ c, x.name.length ≤ 1000000 := by
  simp only [smallB, Bool.and_eq_true, decide_eq_true_eq, List.all_eq_true, prSmall] at h
  exact ⟨h.1.1.1, h.1.1.2, h.1.2, fun x hx => by have := (h.2 x hx).1.1; omega⟩
end Saw
namespace Go.Proofs.YtdbkdneolcgfjaaDoor
open Go.RowKit Saw Go.Sort

/-- The package-level variables that the walks read. -/
def VarsB (w : World) : Prop := Pow w ∧ 0 < w.heap.size
theorem VarsB.below {w w' : World} (h : VarsB w) (hb : Below w.heap.size w w') : VarsB w' := ⟨h.1.below hb h.2, Nat.lt_of_lt_of_le h.2 hb.size⟩
def LawB (w : World) (e : Ending) (w' : World) : Prop := e = .returned (.bool true) ∧ Below w.heap.size w w'

set_option maxRecDepth 100000 in
set_option maxHeartbeats 400000 in
theorem plank_any (w : World) : Calls Tryd.prog 23 #[] w fun e w' => ∃ v, e = .returned v ∧ RdPr w' w'.heap.size v [plankPr] ∧ Below w.heap.size w w' := by
  go_enter Tryd.func23, Tryd.ntmps23
  go_wp2_with fail
  go_ret
  have h1 := Rd.of_own (ownsRow_new (w := w) (base := w.heap.size) (len := 2) (size := 1) (e := 3) (cs := ints [2000, 2500]) (Nat.le_refl _) rfl (by decide))
  obtain ⟨W1, hW1⟩ : ∃ W1, w.alloc (.cells (ints [2000, 2500]).toArray 3) = W1 := ⟨_, rfl⟩
  have s1 : W1.heap.size = w.heap.size + 1 := by rw [← hW1, World.size_alloc]
  have b1 : Below w.heap.size w W1 := by rw [← hW1]; exact (Below.refl _ _).alloc (Nat.le_refl _) _
  have h2 := Rd.of_own (ownsRow_new (w := W1) (base := W1.heap.size) (len := 2) (size := 1) (e := 3) (cs := ints [70, 90]) (Nat.le_refl _) rfl (by decide))
  obtain ⟨W2, hW2⟩ : ∃ W2, W1.alloc (.cells (ints [70, 90]).toArray 3) = W2 := ⟨_, rfl⟩
  have s2 : W2.heap.size = w.heap.size + 1 + 1 := by rw [← hW2, World.size_alloc, s1]
  have b2 : Below W1.heap.size W1 W2 := by rw [← hW2]; exact (Below.refl _ _).alloc (Nat.le_refl _) _
  rw [hW1] at h1
  rw [hW2] at h2
  have h3 := Rd.of_own (ownsRow_new (w := W2) (base := W2.heap.size) (len := 1) (size := 7) (e := 53) (cs := prsCells [(plankPr, .slice (some ⟨w.heap.size, 0, none⟩) 2 2, .slice (some ⟨w.heap.size + 1, 0, none⟩) 2 2)]) (Nat.le_refl _) rfl (by decide))
  obtain ⟨W3, hW3⟩ : ∃ W3, W2.alloc (.cells (prsCells [(plankPr, .slice (some ⟨w.heap.size, 0, none⟩) 2 2, .slice (some ⟨w.heap.size + 1, 0, none⟩) 2 2)]).toArray 53) = W3 := ⟨_, rfl⟩
  have b3 : Below W2.heap.size W2 W3 := by rw [← hW3]; exact (Below.refl _ _).alloc (Nat.le_refl _) _
  rw [hW3, s2] at h3
  have hfin : ∀ (v : Value) (W : World), v = .slice (some ⟨w.heap.size + 1 + 1, 0, none⟩) 1 1 → W = W3 → ∃ v', Ending.returned v = Ending.returned v' ∧ RdPr W W.heap.size v' [plankPr] ∧ Below w.heap.size w W := by
    rintro v W rfl rfl
    refine ⟨_, rfl, ⟨[(plankPr, .slice (some ⟨w.heap.size, 0, none⟩) 2 2, .slice (some ⟨w.heap.size + 1, 0, none⟩) 2 2)], rfl, h3, ?_⟩, b1.trans ((b2.trans (b3.mono (by omega))).mono (by omega))⟩
    intro y hy
    rw [List.mem_singleton.1 hy]
    refine ⟨Rd.next (Rd.next h1 b2) b3, ?_⟩
    rw [s1] at h2
    exact Rd.next h2 b3
  refine hfin _ _ ?_ ?_
  · first | rfl | (simp [World.size_alloc])
  · rw [← hW3, ← hW2, ← hW1]
    rfl

set_option maxRecDepth 100000 in
set_option maxHeartbeats 1000000 in
theorem smallB_any (c : List Pr) (l : List It) (t : List Ti) (Ac Al At : Option Addr) (cc cl ct : Nat) (w : World) (hc : RdPr w w.heap.size (.slice Ac c.length cc) c) (hl : l.length ≤ maxLen) (ht : t.length ≤ maxLen) (hnm : ∀ x ∈ c, x.name.length ≤ 9223372036854775807) :
    Calls Tryd.prog 10 #[.agg #[.slice Ac c.length cc, .slice Al l.length cl, .slice At t.length ct]] w fun e w' => e = .returned (.bool (smallB c l t)) ∧ Below w.heap.size w w' := by
  obtain ⟨r, hr⟩ : ∃ r, smallB c l t = r := ⟨_, rfl⟩
  rw [hr]
  obtain ⟨_, _, _, _, hml⟩ := hc.form
  unfold maxLen at hml hl ht
  unfold smallB at hr
  have HB := Lib.hid ((Below.refl w.heap.size w).alloc (Nat.le_refl _) (.cells #[.slice Ac c.length cc, .slice Al l.length cl, .slice At t.length ct] 26))
  have HC := Lib.hid (hc.below HB.out)
  have HNM := Lib.hid hnm
  clear hc hnm
  by_cases g1 : 20 < c.length
  · have hrz : r = false := by rw [← hr, decide_eq_false (by omega)]; rfl
    subst hrz
    clear hr
    go_enter Tryd.func10, Tryd.ntmps10
    go_wp2_with fail
    go_ret
    exact ⟨rfl, HB.out⟩
  · by_cases g2 : 100 < l.length
    · have hrz : r = false := by rw [← hr, decide_eq_false (show ¬ l.length ≤ 100 by omega)]; simp
      subst hrz
      clear hr
      go_enter Tryd.func10, Tryd.ntmps10
      go_wp2_with fail
      go_ret
      exact ⟨rfl, HB.out⟩
    · by_cases g3 : 30 < t.length
      · have hrz : r = false := by rw [← hr, decide_eq_false (show ¬ t.length ≤ 30 by omega)]; simp
        subst hrz
        clear hr
        go_enter Tryd.func10, Tryd.ntmps10
        go_wp2_with fail
        go_ret
        exact ⟨rfl, HB.out⟩
      · have HR := Lib.hid (show c.all prSmall = r by rw [← hr, decide_eq_true (show c.length ≤ 20 by omega), decide_eq_true (show l.length ≤ 100 by omega), decide_eq_true (show t.length ≤ 30 by omega)]; rfl)
        clear hr
        go_enter Tryd.func10, Tryd.ntmps10
        go_wp2_with fail
        go_loop [3] (fun i => ∃ k : Nat, k ≤ c.length ∧ i = .int .i64 k ∧ (c.drop k).all prSmall = r) (fun i => c.length - (intOf i).toNat)
        case atStart => exact ⟨0, by omega, rfl, HR.out⟩
        case round =>
          obtain ⟨k, hk, rfl, hrk⟩ := hrel
          by_cases hlt : k < c.length
          · have hx : c[k]? = some c[k] := List.getElem?_eq_getElem hlt
            obtain ⟨x, hxe⟩ : ∃ x, c[k] = x := ⟨_, rfl⟩
            have hxn : (str x.name).size ≤ 9223372036854775807 := by rw [size_str]; exact HNM.out x (by rw [← hxe]; exact List.getElem_mem hlt)
            rw [List.drop_eq_getElem_cons hlt, hxe, List.all_cons] at hrk
            rw [hxe] at hx
            obtain ⟨b, off, A1, c1, A2, c2, rfl, hbl, hm1, hm2, _, _, q0, q1, q2, q3, q4, q5, q6⟩ := RdPr.at_ HC.out hx
            unfold maxLen at hm1 hm2
            have hsn : (str x.name).size = x.name.length := size_str _
            have HSN := Lib.hid hsn
            have HST := Lib.hid hrk
            clear hrk hx hxe
            by_cases z1 : 100 < (str x.name).size
            · have hrz : r = false := by rw [← HST.out, prSmall, decide_eq_false (show ¬ x.name.length ≤ 100 by omega)]; simp
              subst hrz
              clear hsn
              go_wp2_with fail
              go_ret
              exact ⟨rfl, HB.out⟩
            · by_cases z2 : 12 < x.lens.length
              · have hrz : r = false := by rw [← HST.out, prSmall, decide_eq_false (show ¬ x.lens.length ≤ 12 by omega)]; simp
                subst hrz
                clear hsn
                go_wp2_with fail
                go_ret
                exact ⟨rfl, HB.out⟩
              · by_cases z3 : 12 < x.prices.length
                · have hrz : r = false := by rw [← HST.out, prSmall, decide_eq_false (show ¬ x.prices.length ≤ 12 by omega)]; simp
                  subst hrz
                  clear hsn
                  go_wp2_with fail
                  go_ret
                  exact ⟨rfl, HB.out⟩
                · have HN := Lib.hid (show (c.drop (k + 1)).all prSmall = r by rw [← HST.out, prSmall, decide_eq_true (show x.name.length ≤ 100 by omega), decide_eq_true (show x.lens.length ≤ 12 by omega), decide_eq_true (show x.prices.length ≤ 12 by omega)]; rfl)
                  clear hsn
                  go_wp2_with fail
                  exact ⟨⟨k + 1, by omega, by go_num, HN.out⟩, by simp [intOf]; omega⟩
          · have hrz : r = true := by rw [List.drop_eq_nil_of_le (by omega)] at hrk; exact hrk.symm
            subst hrz
            clear hrk HR
            go_wp2_with fail
            go_ret
            exact ⟨rfl, HB.out⟩

theorem own_it {w : World} {l : List It} (hl : l.length ≤ 1000) : RdIt (w.alloc (.cells (l.flatMap itCells).toArray 28)) (w.alloc (.cells (l.flatMap itCells).toArray 28)).heap.size (.slice (some ⟨w.heap.size, 0, none⟩) l.length l.length) l :=
  Rd.of_own (ownsRow_new (base := w.heap.size) (Nat.le_refl _) (flat_len itCells 4 (fun _ => rfl) l) (by unfold maxLen; omega))
theorem own_ti {w : World} {l : List Ti} (hl : l.length ≤ 1000) : RdTi (w.alloc (.cells (l.flatMap tiCells).toArray 56)) (w.alloc (.cells (l.flatMap tiCells).toArray 56)).heap.size (.slice (some ⟨w.heap.size, 0, none⟩) l.length l.length) l :=
  Rd.of_own (ownsRow_new (base := w.heap.size) (Nat.le_refl _) (flat_len tiCells 2 (fun _ => rfl) l) (by unfold maxLen; omega))

set_option maxRecDepth 100000 in
set_option maxHeartbeats 1000000 in
theorem awakeB_any (w : World) (hv : VarsB w) : Calls Tryd.prog 11 #[] w (LawB w) := by
  have HV := Lib.hid hv
  clear hv
  go_enter Tryd.func11, Tryd.ntmps11
  go_wp2_with fail
  refine (plank_any _).mono ?_
  rintro e w1 ⟨v, rfl, hp, hb1⟩
  obtain ⟨Ac, cc, rfl, _, _⟩ := hp.form
  obtain ⟨W2, hW2⟩ : ∃ W2, w1.alloc (.cells (aItems.flatMap itCells).toArray 28) = W2 := ⟨_, rfl⟩
  obtain ⟨W3, hW3⟩ : ∃ W3, W2.alloc (.cells (aTiers.flatMap tiCells).toArray 56) = W3 := ⟨_, rfl⟩
  have b2 : Below w1.heap.size w1 W2 := by rw [← hW2]; exact (Below.refl _ _).alloc (Nat.le_refl _) _
  have b3 : Below W2.heap.size W2 W3 := by rw [← hW3]; exact (Below.refl _ _).alloc (Nat.le_refl _) _
  have hi2 := own_it (w := w1) (l := aItems) (by decide)
  have ht3 := own_ti (w := W2) (l := aTiers) (by decide)
  rw [hW2] at hi2
  rw [hW3] at ht3
  have s2 : W2.heap.size = w1.heap.size + 1 := by rw [← hW2, World.size_alloc]
  rw [s2] at ht3
  have HP3 := Lib.hid ((hp.next b2).next b3)
  have HI3 := Lib.hid (show RdIt W3 W3.heap.size _ aItems from Rd.next hi2 b3)
  have HT3 := Lib.hid ht3
  have HB3 := Lib.hid (hb1.trans ((b2.trans (b3.mono b2.size)).mono hb1.size))
  have HW := Lib.hid (show (w1.alloc (.cells #[.int .i64 0, .int .i64 2000, .int .i64 3, .int .i64 450, .int .i64 0, .int .i64 2000, .int .i64 5, .int .i64 12500000] 28)).alloc (.cells #[.int .i64 100, .int .i64 20, .int .i64 1000, .int .i64 50] 56) = W3 by rw [← hW3, ← hW2]; rfl)
  have hnm : ∀ x ∈ [plankPr], x.name.length ≤ 1000000 := by decide
  have HNM := Lib.hid hnm
  clear hp hb1 b2 b3 hi2 ht3 hW2 hW3 hnm
  go_wp2_with fail
  rw [HW.out]
  have hsz3 := HB3.out.size
  clear HW
  refine (amount_any [plankPr] _ ⟨0, 2000, 3, 450⟩ _ HP3.out HNM.out).mono ?_
  rintro e w4 ⟨he, hb4⟩
  rw [aw_a1] at he
  subst he
  have HP4 := Lib.hid (HP3.out.next hb4)
  have HI4 := Lib.hid (show RdIt w4 w4.heap.size _ aItems from Rd.next HI3.out hb4)
  have HT4 := Lib.hid (show RdTi w4 w4.heap.size _ aTiers from Rd.next HT3.out hb4)
  have HB4 := Lib.hid (HB3.out.trans (hb4.mono hsz3))
  have hsz4 := HB4.out.size
  clear hb4
  go_wp2_with fail
  refine (amount_any [plankPr] _ ⟨0, 2000, 1, 62563⟩ _ HP4.out HNM.out).mono ?_
  rintro e w5 ⟨he, hb5⟩
  rw [aw_a2] at he
  subst he
  have HP5 := Lib.hid (HP4.out.next hb5)
  have HI5 := Lib.hid (show RdIt w5 w5.heap.size _ aItems from Rd.next HI4.out hb5)
  have HT5 := Lib.hid (show RdTi w5 w5.heap.size _ aTiers from Rd.next HT4.out hb5)
  have HB5 := Lib.hid (HB4.out.trans (hb5.mono hsz4))
  have hsz5 := HB5.out.size
  clear hb5
  go_wp2_with fail
  refine (discount_any aTiers _ 999 _ HT5.out).mono ?_
  rintro e w6 ⟨he, hb6⟩
  rw [aw_d] at he
  subst he
  have HP6 := Lib.hid (HP5.out.next hb6)
  have HI6 := Lib.hid (show RdIt w6 w6.heap.size _ aItems from Rd.next HI5.out hb6)
  have HT6 := Lib.hid (show RdTi w6 w6.heap.size _ aTiers from Rd.next HT5.out hb6)
  have HB6 := Lib.hid (HB5.out.trans (hb6.mono hsz5))
  have hsz6 := HB6.out.size
  clear hb6
  go_wp2_with fail
  refine (total_any [plankPr] aItems aTiers _ _ _ _ HP6.out HNM.out HI6.out HT6.out).mono ?_
  rintro e w7 ⟨he, hb7⟩
  rw [aw_t] at he
  subst he
  have HP7 := Lib.hid (HP6.out.next hb7)
  have HI7 := Lib.hid (show RdIt w7 w7.heap.size _ aItems from Rd.next HI6.out hb7)
  have HT7 := Lib.hid (show RdTi w7 w7.heap.size _ aTiers from Rd.next HT6.out hb7)
  have HB7 := Lib.hid (HB6.out.trans (hb7.mono hsz6))
  have hsz7 := HB7.out.size
  clear hb7
  go_wp2_with fail
  refine (text_any [plankPr] aItems aTiers _ _ _ _ HP7.out HNM.out HI7.out HT7.out (HV.out.below HB7.out).1 (HV.out.below HB7.out).2).mono ?_
  rintro e w8 ⟨he, hb8⟩
  rw [aw_text] at he
  subst he
  have HB8 := Lib.hid (HB7.out.trans (hb8.mono hsz7))
  have hpe : ((str aText).toList == [112, 108, 97, 110, 107, 32, 50, 48, 48, 48, 32, 51, 32, 49, 49, 10, 112, 108, 97, 110, 107, 32, 50, 48, 48, 48, 32, 53, 32, 53, 48, 48, 48, 48, 48, 10, 100, 105, 115, 99, 111, 117, 110, 116, 32, 50, 53, 48, 48, 48, 10, 116, 111, 116, 97, 108, 32, 52, 55, 53, 48, 49, 49, 10]) = true := by rw [toList_bts, bts_str]; kernel_rfl
  clear hb8
  go_wp2_with fail
  go_ret
  exact ⟨rfl, HB8.out⟩

end Go.Proofs.YtdbkdneolcgfjaaDoor
