/-
  BillRounds walked.
-/
import Derived.Test.YtdbkdneolcgfjaaDoorBillOpen
import Derived.Test.YtdbkdneolcgfjaaDoorBillQ
namespace Go.Proofs.YtdbkdneolcgfjaaDoor
open Go.ChangeShapes Go.WideShapes Go.ChangeAt Go.RowKit Saw Go.Sort

set_option maxRecDepth 100000 in
theorem open_int2 {H : Type} {enc : TypeId × Value → H} {W : World} {r : Reach} {b0 : Nat} {v : Value} {d : DataW H} {p : List MemPlace} (hv : Value.okWide Tryd.prog W r b0 49 v)
    (h : DataW.Trod enc Tryd.prog W 0 (fun _ => true) true 49 v d p) : ∃ a b : Int, v = .agg #[.int .i64 a, .int .i64 b] ∧ (I64 a ∧ I64 b) := by
  simp only [Value.okWide, Tryd.underlying49] at hv
  obtain ⟨cs, rfl, hsz, _⟩ := hv
  obtain ⟨fuel, hf⟩ := h
  obtain ⟨xs, m, _, hx, hl, hn, hel⟩ := DataW.trod_array Tryd.underlying49 (show DataW.trod enc Tryd.prog W 0 (fun _ => true) true fuel 49 cs.toList = some _ from hf)
  have c2 : Tryd.prog.cellsOf 49 = 2 := by kernel_rfl
  have c1 : Tryd.prog.cellsOf 3 = 1 := by kernel_rfl
  obtain ⟨l⟩ := cs
  rw [c2] at hl
  match l, hl, xs, hn, hel with
  | [u0, u1], _, [x0, x1], _, hel =>
    have h0 := hel 0 (by decide)
    have h1 := hel 1 (by decide)
    rw [c1] at h0 h1
    obtain ⟨n0, e0, _, w0⟩ := DataW.trod_int Tryd.underlying3 (show DataW.trod enc Tryd.prog W 0 (fun _ => true) true m 3 _ = some x0 from h0)
    obtain ⟨n1, e1, _, w1⟩ := DataW.trod_int Tryd.underlying3 (show DataW.trod enc Tryd.prog W 0 (fun _ => true) true m 3 _ = some x1 from h1)
    simp at e0 e1
    subst e0 e1
    exact ⟨n0, n1, rfl, wf_i64b w0, wf_i64b w1⟩


set_option maxRecDepth 100000 in
set_option maxHeartbeats 2000000 in
theorem billRounds_walk (c : List Pr) (l : List It) (t : List Ti) (Ac Al At : Option Addr) (cc cl ct : Nat) (i : It) (m0 m1 : Int) (w : World) (h : InvOk w c l t Ac Al At cc cl ct) (_hi : I64 i.product ∧ I64 i.length ∧ I64 i.count ∧ I64 i.price) (_hm : I64 m0 ∧ I64 m1) (hv : VarsB w) :
    Calls Tryd.prog 6 #[.agg #[.slice Ac c.length cc, .slice Al l.length cl, .slice At t.length ct], .agg #[.int .i64 i.product, .int .i64 i.length, .int .i64 i.count, .int .i64 i.price], .agg #[.int .i64 m0, .int .i64 m1]] w (LawB w) := by
  obtain ⟨hc, hl, ht, hn⟩ := h
  obtain ⟨W0, hW0⟩ : ∃ W0, ((w.alloc (.cells #[.slice Ac c.length cc, .slice Al l.length cl, .slice At t.length ct] 26)).alloc (.cells #[.int .i64 i.product, .int .i64 i.length, .int .i64 i.count, .int .i64 i.price] 28)).alloc (.cells #[.int .i64 m0, .int .i64 m1] 49) = W0 := ⟨_, rfl⟩
  have s0 : W0.heap.size = w.heap.size + 1 + 1 + 1 := by rw [← hW0, World.size_alloc, World.size_alloc, World.size_alloc]
  have b0 : Below w.heap.size w W0 := by rw [← hW0]; exact (((Below.refl _ _).alloc (Nat.le_refl _) _).alloc (by rw [World.size_alloc]; omega) _).alloc (by rw [World.size_alloc, World.size_alloc]; omega) _
  have g0 : W0.heap[w.heap.size]? = some (.cells #[.slice Ac c.length cc, .slice Al l.length cl, .slice At t.length ct] 26 (0, 0)) := by rw [← hW0]; exact ((Below.heap_alloc _ _ _ (by rw [World.size_alloc, World.size_alloc]; omega)).trans (Below.heap_alloc _ _ _ (by rw [World.size_alloc]; omega))).trans (heap_alloc_last w _)
  have g1 : W0.heap[w.heap.size + 1]? = some (.cells #[.int .i64 i.product, .int .i64 i.length, .int .i64 i.count, .int .i64 i.price] 28 (0, 0)) := by
    rw [← hW0]
    refine (Below.heap_alloc _ _ _ (by rw [World.size_alloc, World.size_alloc]; omega)).trans ?_
    have := heap_alloc_last (w.alloc (.cells #[.slice Ac c.length cc, .slice Al l.length cl, .slice At t.length ct] 26)) (.cells #[.int .i64 i.product, .int .i64 i.length, .int .i64 i.count, .int .i64 i.price] 28)
    rw [World.size_alloc] at this
    exact this
  have g2 : W0.heap[w.heap.size + 1 + 1]? = some (.cells #[.int .i64 m0, .int .i64 m1] 49 (0, 0)) := by
    rw [← hW0]
    have := heap_alloc_last ((w.alloc (.cells #[.slice Ac c.length cc, .slice Al l.length cl, .slice At t.length ct] 26)).alloc (.cells #[.int .i64 i.product, .int .i64 i.length, .int .i64 i.count, .int .i64 i.price] 28)) (.cells #[.int .i64 m0, .int .i64 m1] 49)
    rw [World.size_alloc, World.size_alloc] at this
    exact this
  have pi0 : W0.cell? ⟨w.heap.size, 0, none⟩ = some (.slice Ac c.length cc) := cell_of_box g0 rfl
  have pt0 : W0.cell? ⟨w.heap.size + 1, 0, none⟩ = some (.int .i64 i.product) := cell_of_box g1 rfl
  have pt1 : W0.cell? ⟨w.heap.size + 1, 1, none⟩ = some (.int .i64 i.length) := cell_of_box g1 rfl
  have pt2 : W0.cell? ⟨w.heap.size + 1, 2, none⟩ = some (.int .i64 i.count) := cell_of_box g1 rfl
  have pt3 : W0.cell? ⟨w.heap.size + 1, 3, none⟩ = some (.int .i64 i.price) := cell_of_box g1 rfl
  have pm0 : W0.cell? ⟨w.heap.size + 1 + 1, 0, none⟩ = some (.int .i64 m0) := cell_of_box g2 rfl
  have pm1 : W0.cell? ⟨w.heap.size + 1 + 1, 1, none⟩ = some (.int .i64 m1) := cell_of_box g2 rfl
  obtain ⟨_, _, _, _, hl1⟩ := hl.form
  obtain ⟨_, _, _, _, ht1⟩ := ht.form
  have HC0 := Lib.hid (hc.next b0)
  have HB0 := Lib.hid b0
  have HV := Lib.hid hv
  have HN := Lib.hid (show ∀ x ∈ c, x.name.length ≤ 9223372036854775807 from fun x hx => by have := hn x hx; unfold maxLen at this; omega)
  have HW0 := Lib.hid hW0
  have HL1 := Lib.hid hl1
  have HT1 := Lib.hid ht1
  clear hc hl ht hn hv b0 g0 g1 g2 hW0 hl1 ht1
  go_enter Tryd.func6, Tryd.ntmps6
  go_wp2_with fail
  rw [HW0.out]
  refine (smallB_any c l t Ac Al At cc cl ct _ HC0.out HL1.out HT1.out HN.out).mono ?_
  rintro e w1 ⟨he, hb⟩
  have HB := Lib.hid (HB0.out.trans (hb.mono HB0.out.size))
  have hsz1 := HB.out.size
  have hs1 : w.heap.size + 1 + 1 + 1 ≤ w1.heap.size := by have := hb.size; omega
  have ri0 : w1.cell? ⟨w.heap.size, 0, none⟩ = some (.slice Ac c.length cc) := (hb.cell (p := ⟨w.heap.size, 0, none⟩) (by show w.heap.size < _; omega)).trans pi0
  have rt0 : w1.cell? ⟨w.heap.size + 1, 0, none⟩ = some (.int .i64 i.product) := (hb.cell (p := ⟨w.heap.size + 1, 0, none⟩) (by show w.heap.size + 1 < _; omega)).trans pt0
  have rt1 : w1.cell? ⟨w.heap.size + 1, 1, none⟩ = some (.int .i64 i.length) := (hb.cell (p := ⟨w.heap.size + 1, 1, none⟩) (by show w.heap.size + 1 < _; omega)).trans pt1
  have rt2 : w1.cell? ⟨w.heap.size + 1, 2, none⟩ = some (.int .i64 i.count) := (hb.cell (p := ⟨w.heap.size + 1, 2, none⟩) (by show w.heap.size + 1 < _; omega)).trans pt2
  have rt3 : w1.cell? ⟨w.heap.size + 1, 3, none⟩ = some (.int .i64 i.price) := (hb.cell (p := ⟨w.heap.size + 1, 3, none⟩) (by show w.heap.size + 1 < _; omega)).trans pt3
  have rm0 : w1.cell? ⟨w.heap.size + 1 + 1, 0, none⟩ = some (.int .i64 m0) := (hb.cell (p := ⟨w.heap.size + 1 + 1, 0, none⟩) (by show w.heap.size + 1 + 1 < _; omega)).trans pm0
  have rm1 : w1.cell? ⟨w.heap.size + 1 + 1, 1, none⟩ = some (.int .i64 m1) := (hb.cell (p := ⟨w.heap.size + 1 + 1, 1, none⟩) (by show w.heap.size + 1 + 1 < _; omega)).trans pm1
  have HC1 := Lib.hid (HC0.out.next hb)
  clear hb pi0 pt0 pt1 pt2 pt3 pm0 pm1 HC0 HB0 HW0
  cases hsm : smallB c l t with
  | false =>
    rw [hsm] at he
    subst he
    clear hsm
    go_wp2_with fail
    refine (awakeB_any _ (HV.out.below HB.out)).mono ?_
    rintro e w9 ⟨rfl, hb9⟩
    have HB9 := Lib.hid (HB.out.trans (hb9.mono hsz1))
    clear hb9
    go_wp2_with fail
    go_ret
    exact ⟨rfl, HB9.out⟩
  | true =>
    rw [hsm] at he
    subst he
    have HNM := Lib.hid (smallB_names hsm).2.2.2
    clear hsm
    by_cases g1 : m0 < 0
    · go_wp2_with fail
      refine (awakeB_any _ (HV.out.below HB.out)).mono ?_
      rintro e w9 ⟨rfl, hb9⟩
      have HB9 := Lib.hid (HB.out.trans (hb9.mono hsz1))
      clear hb9
      go_wp2_with fail
      go_ret
      exact ⟨rfl, HB9.out⟩
    · have k1 := Int.not_lt.1 g1
      clear g1
      by_cases g2 : 1000 < m0
      · go_wp2_with fail
        refine (awakeB_any _ (HV.out.below HB.out)).mono ?_
        rintro e w9 ⟨rfl, hb9⟩
        have HB9 := Lib.hid (HB.out.trans (hb9.mono hsz1))
        clear hb9
        go_wp2_with fail
        go_ret
        exact ⟨rfl, HB9.out⟩
      · have k2 := Int.not_lt.1 g2
        clear g2
        by_cases g3 : m1 < 0
        · go_wp2_with fail
          refine (awakeB_any _ (HV.out.below HB.out)).mono ?_
          rintro e w9 ⟨rfl, hb9⟩
          have HB9 := Lib.hid (HB.out.trans (hb9.mono hsz1))
          clear hb9
          go_wp2_with fail
          go_ret
          exact ⟨rfl, HB9.out⟩
        · have k3 := Int.not_lt.1 g3
          clear g3
          by_cases g4 : 10 < m1
          · go_wp2_with fail
            refine (awakeB_any _ (HV.out.below HB.out)).mono ?_
            rintro e w9 ⟨rfl, hb9⟩
            have HB9 := Lib.hid (HB.out.trans (hb9.mono hsz1))
            clear hb9
            go_wp2_with fail
            go_ret
            exact ⟨rfl, HB9.out⟩
          · have k4 := Int.not_lt.1 g4
            clear g4
            obtain ⟨a, e0, ha⟩ : ∃ a e0, amountP c i = (a, e0) := ⟨_, _, rfl⟩
            have HA := Lib.hid ha
            clear ha
            go_wp2_with fail
            refine (amount_any c _ i _ HC1.out HNM.out).mono ?_
            rintro e w2 ⟨he, hb2⟩
            rw [HA.out] at he
            subst he
            have HB2 := Lib.hid (HB.out.trans (hb2.mono hsz1))
            have hsz2 := HB2.out.size
            have hs2 : w.heap.size + 1 + 1 + 1 ≤ w2.heap.size := Nat.le_trans hs1 hb2.size
            have HC2 := Lib.hid (HC1.out.next hb2)
            have ti0 : w2.cell? ⟨w.heap.size, 0, none⟩ = some (.slice Ac c.length cc) := (hb2.cell (p := ⟨w.heap.size, 0, none⟩) (by show w.heap.size < _; omega)).trans ri0
            have tt0 : w2.cell? ⟨w.heap.size + 1, 0, none⟩ = some (.int .i64 i.product) := (hb2.cell (p := ⟨w.heap.size + 1, 0, none⟩) (by show w.heap.size + 1 < _; omega)).trans rt0
            have tt1 : w2.cell? ⟨w.heap.size + 1, 1, none⟩ = some (.int .i64 i.length) := (hb2.cell (p := ⟨w.heap.size + 1, 1, none⟩) (by show w.heap.size + 1 < _; omega)).trans rt1
            have tt2 : w2.cell? ⟨w.heap.size + 1, 2, none⟩ = some (.int .i64 i.count) := (hb2.cell (p := ⟨w.heap.size + 1, 2, none⟩) (by show w.heap.size + 1 < _; omega)).trans rt2
            have tt3 : w2.cell? ⟨w.heap.size + 1, 3, none⟩ = some (.int .i64 i.price) := (hb2.cell (p := ⟨w.heap.size + 1, 3, none⟩) (by show w.heap.size + 1 < _; omega)).trans rt3
            have tm0 : w2.cell? ⟨w.heap.size + 1 + 1, 0, none⟩ = some (.int .i64 m0) := (hb2.cell (p := ⟨w.heap.size + 1 + 1, 0, none⟩) (by show w.heap.size + 1 + 1 < _; omega)).trans rm0
            have tm1 : w2.cell? ⟨w.heap.size + 1 + 1, 1, none⟩ = some (.int .i64 m1) := (hb2.cell (p := ⟨w.heap.size + 1 + 1, 1, none⟩) (by show w.heap.size + 1 + 1 < _; omega)).trans rm1
            clear hb2 ri0 rt0 rt1 rt2 rt3 rm0 rm1
            by_cases hz : e0 = 0
            · subst hz
              obtain ⟨k, x, hpk, hcx, hlm, _, j1, j2, j3, j4, hae⟩ := amount_exact HA.out
              have hkl : k < c.length := (List.getElem?_eq_some_iff.1 hcx).1
              have ab := amount_bd c i
              rw [HA.out] at ab
              obtain ⟨a1, a2⟩ := ab
              simp only at a1 a2
              have hmore := amount_more (j := ⟨k, i.length, i.count + m1, i.price + m0⟩) HA.out hpk.symm rfl (by show i.price ≤ i.price + m0; omega) (by show i.count ≤ i.count + m1; omega)
              rw [hpk] at tt0
              have vb := volume_bd x i.length
              obtain ⟨vol, hvol⟩ : ∃ vol, volumeP x i.length = vol := ⟨_, rfl⟩
              rw [hvol] at vb hae
              have HVOL := Lib.hid hvol
              have HAE := Lib.hid hae
              have HCX := Lib.hid hcx
              have f1 : (0 : Int) ≤ (k : Int) := by omega
              have f2 : (k : Int) < (c.length : Int) := by omega
              have hba : ∀ o : Obj, Below w2.heap.size w2 (w2.alloc o) := fun o => (Below.refl _ _).alloc (Nat.le_refl _) o
              have y0 : ∀ o : Obj, (w2.alloc o).cell? ⟨w.heap.size, 0, none⟩ = some (.slice Ac c.length cc) := fun o => ((hba o).cell (p := ⟨w.heap.size, 0, none⟩) (by show w.heap.size < _; omega)).trans ti0
              have y1 : ∀ o : Obj, (w2.alloc o).cell? ⟨w.heap.size + 1 + 1, 0, none⟩ = some (.int .i64 m0) := fun o => ((hba o).cell (p := ⟨w.heap.size + 1 + 1, 0, none⟩) (by show w.heap.size + 1 + 1 < _; omega)).trans tm0
              have y2 : ∀ o : Obj, (w2.alloc o).cell? ⟨w.heap.size + 1 + 1, 1, none⟩ = some (.int .i64 m1) := fun o => ((hba o).cell (p := ⟨w.heap.size + 1 + 1, 1, none⟩) (by show w.heap.size + 1 + 1 < _; omega)).trans tm1
              have HBA := Lib.hid hba
              clear hvol hae hcx hlm hba
              rcases hmore with hj | ⟨b', hj, hab⟩
              all_goals
                have HJ := Lib.hid hj
                clear hj
                go_wp2_with fail
                obtain ⟨X, hX⟩ : ∃ X : Obj, X = .cells #[.int .i64 (k : Int), .int .i64 i.length, .int .i64 (i.count + m1), .int .i64 (i.price + m0)] 28 := ⟨_, rfl⟩
                rw [← hX]
                clear hX
                refine (amount_any c _ ⟨k, i.length, i.count + m1, i.price + m0⟩ _ (HC2.out.next (HBA.out X)) HNM.out).mono ?_
                rintro e w4 ⟨he, hb4⟩
                rw [HJ.out] at he
                subst he
                have hb24 : Below w2.heap.size w2 w4 := (HBA.out X).trans (hb4.mono (HBA.out X).size)
                have HB4 := Lib.hid (HB2.out.trans (hb24.mono hsz2))
                have hsz4 := HB4.out.size
                have hs4 : w.heap.size + 1 + 1 + 1 ≤ w4.heap.size := Nat.le_trans hs2 hb24.size
                have HC4 := Lib.hid (HC2.out.next hb24)
                have ui0 : w4.cell? ⟨w.heap.size, 0, none⟩ = some (.slice Ac c.length cc) := (hb24.cell (p := ⟨w.heap.size, 0, none⟩) (by show w.heap.size < _; omega)).trans ti0
                have ut0 : w4.cell? ⟨w.heap.size + 1, 0, none⟩ = some (.int .i64 (k : Int)) := (hb24.cell (p := ⟨w.heap.size + 1, 0, none⟩) (by show w.heap.size + 1 < _; omega)).trans tt0
                have ut1 : w4.cell? ⟨w.heap.size + 1, 1, none⟩ = some (.int .i64 i.length) := (hb24.cell (p := ⟨w.heap.size + 1, 1, none⟩) (by show w.heap.size + 1 < _; omega)).trans tt1
                have ut2 : w4.cell? ⟨w.heap.size + 1, 2, none⟩ = some (.int .i64 i.count) := (hb24.cell (p := ⟨w.heap.size + 1, 2, none⟩) (by show w.heap.size + 1 < _; omega)).trans tt2
                have ut3 : w4.cell? ⟨w.heap.size + 1, 3, none⟩ = some (.int .i64 i.price) := (hb24.cell (p := ⟨w.heap.size + 1, 3, none⟩) (by show w.heap.size + 1 < _; omega)).trans tt3
                have um0 : w4.cell? ⟨w.heap.size + 1 + 1, 0, none⟩ = some (.int .i64 m0) := (hb24.cell (p := ⟨w.heap.size + 1 + 1, 0, none⟩) (by show w.heap.size + 1 + 1 < _; omega)).trans tm0
                have um1 : w4.cell? ⟨w.heap.size + 1 + 1, 1, none⟩ = some (.int .i64 m1) := (hb24.cell (p := ⟨w.heap.size + 1 + 1, 1, none⟩) (by show w.heap.size + 1 + 1 < _; omega)).trans tm1
                clear hb4 hb24 y0 y1 y2 ti0 tt0 tt1 tt2 tt3 tm0 tm1
                obtain ⟨b, off, A1, c1, A2, c2, rfl, hbl, _, _, _, _, q0, q1, q2, q3, q4, q5, q6⟩ := RdPr.at_ HC4.out HCX.out
                have HRN := Lib.hid (show w4.rangeAt b (off + k * 7) [.string (str x.name), .int .i64 x.thick, .int .i64 x.width, .int .i64 x.allow, .int .i64 x.wane, .slice A1 x.lens.length c1, .slice A2 x.prices.length c2] from range7 q0 q1 q2 q3 q4 q5 q6)
                have SV : Hid (∀ W, Calls Tryd.prog 22 #[.agg #[.string (str x.name), .int .i64 x.thick, .int .i64 x.width, .int .i64 x.allow, .int .i64 x.wane, .slice A1 x.lens.length c1, .slice A2 x.prices.length c2], .int .i64 i.length] W fun e w' => e = .returned (.int .i64 vol) ∧ Below W.heap.size W w') := fun W => (volume_any x A1 A2 _ _ _ _ i.length W).mono fun e w' ⟨he, hb⟩ => ⟨by rw [he, HVOL.out], hb⟩
                have z0 : ∀ d os, (grow (redrawn w4 d) os).cell? ⟨w.heap.size, 0, none⟩ = some (.slice (some ⟨b, off, none⟩) c.length cc) := fun d os => cell_regrown ui0 d os
                have z1 : ∀ d os, (grow (redrawn w4 d) os).cell? ⟨w.heap.size + 1, 0, none⟩ = some (.int .i64 (k : Int)) := fun d os => cell_regrown ut0 d os
                have z2 : ∀ d os, (grow (redrawn w4 d) os).cell? ⟨w.heap.size + 1, 1, none⟩ = some (.int .i64 i.length) := fun d os => cell_regrown ut1 d os
                clear q0 q1 q2 q3 q4 q5 q6
                go_wp2_with fail
                refine wp_region_quiet_below (by kernel_rfl) (by kernel_rfl) ?_
                repeat (first
                  | ((with_reducible refine quiet_load b (off + k * 7) [.string (str x.name), .int .i64 x.thick, .int .i64 x.width, .int .i64 x.allow, .int .i64 x.wane, .slice A1 x.lens.length c1, .slice A2 x.prices.length c2] ?hw ?hx HRN.out hbl Tryd.underlying53 ?hd ?hi ?_); (case hi => kernel_rfl); (case hw => kernel_rfl); (case hx => rfl); (case hd => rfl))
                  | (open Go.BigFrame in go_big_quiet_step ((with_reducible exact Calls.regrown_of (SV.out _))))
                  | (quiet_step ((with_reducible exact Calls.regrown_of (SV.out _)))))
                refine wpQuiet_nil ?_
                rintro w6 ⟨z6, hw6⟩
                have hb6 : Below w4.heap.size w4 w6 := by rw [hw6]; exact below_regrown _ _ _
                have HB6 := Lib.hid (HB4.out.trans (hb6.mono hsz4))
                have hsz6 := HB6.out.size
                have vi0 : w6.cell? ⟨w.heap.size, 0, none⟩ = some (.slice (some ⟨b, off, none⟩) c.length cc) := (hb6.cell (p := ⟨w.heap.size, 0, none⟩) (by show w.heap.size < _; omega)).trans ui0
                have vt0 : w6.cell? ⟨w.heap.size + 1, 0, none⟩ = some (.int .i64 (k : Int)) := (hb6.cell (p := ⟨w.heap.size + 1, 0, none⟩) (by show w.heap.size + 1 < _; omega)).trans ut0
                have vt1 : w6.cell? ⟨w.heap.size + 1, 1, none⟩ = some (.int .i64 i.length) := (hb6.cell (p := ⟨w.heap.size + 1, 1, none⟩) (by show w.heap.size + 1 < _; omega)).trans ut1
                have vt2 : w6.cell? ⟨w.heap.size + 1, 2, none⟩ = some (.int .i64 i.count) := (hb6.cell (p := ⟨w.heap.size + 1, 2, none⟩) (by show w.heap.size + 1 < _; omega)).trans ut2
                have vt3 : w6.cell? ⟨w.heap.size + 1, 3, none⟩ = some (.int .i64 i.price) := (hb6.cell (p := ⟨w.heap.size + 1, 3, none⟩) (by show w.heap.size + 1 < _; omega)).trans ut3
                have vm0 : w6.cell? ⟨w.heap.size + 1 + 1, 0, none⟩ = some (.int .i64 m0) := (hb6.cell (p := ⟨w.heap.size + 1 + 1, 0, none⟩) (by show w.heap.size + 1 + 1 < _; omega)).trans um0
                have vm1 : w6.cell? ⟨w.heap.size + 1 + 1, 1, none⟩ = some (.int .i64 m1) := (hb6.cell (p := ⟨w.heap.size + 1 + 1, 1, none⟩) (by show w.heap.size + 1 + 1 < _; omega)).trans um1
                obtain ⟨v1, v2⟩ := vb
                clear hw6 hb6 z0 z1 z2 ui0 ut0 ut1 ut2 ut3 um0 um1
                by_cases c1' : 2000000000 < vol
                · go_wp2_with fail
                  refine (awakeB_any _ (HV.out.below HB6.out)).mono ?_
                  rintro e w9 ⟨rfl, hb9⟩
                  have HB9 := Lib.hid (HB6.out.trans (hb9.mono hsz6))
                  clear hb9
                  go_wp2_with fail
                  go_ret
                  exact ⟨rfl, HB9.out⟩
                · have d1 := Int.not_lt.1 c1'
                  have mb := mul_bd (a := vol) (b := i.count) (x := 2000000000) (y := 200) v1 d1 j1 j2
                  obtain ⟨vv, hvv⟩ : ∃ vv, vol * i.count = vv := ⟨_, rfl⟩
                  rw [hvv] at mb
                  obtain ⟨mb1, mb2⟩ := mb
                  by_cases c2' : 2000000000 < vv
                  · go_wp2_with fail
                    refine (awakeB_any _ (HV.out.below HB6.out)).mono ?_
                    rintro e w9 ⟨rfl, hb9⟩
                    have HB9 := Lib.hid (HB6.out.trans (hb9.mono hsz6))
                    clear hb9
                    go_wp2_with fail
                    go_ret
                    exact ⟨rfl, HB9.out⟩
                  · have d2 := Int.not_lt.1 c2'
                    by_cases c3' : 2000000000 < a
                    · go_wp2_with fail
                      refine (awakeB_any _ (HV.out.below HB6.out)).mono ?_
                      rintro e w9 ⟨rfl, hb9⟩
                      have HB9 := Lib.hid (HB6.out.trans (hb9.mono hsz6))
                      clear hb9
                      go_wp2_with fail
                      go_ret
                      exact ⟨rfl, HB9.out⟩
                    · have d3 := Int.not_lt.1 c3'
                      have pb := mul_bd (a := vv) (b := i.price) (x := 2000000000) (y := 1000000000) mb1 d2 j3 j4
                      obtain ⟨pp, hpp⟩ : ∃ pp, vv * i.price = pp := ⟨_, rfl⟩
                      rw [hpp] at pb
                      obtain ⟨pb1, pb2⟩ := pb
                      have hfin := HAE.out
                      rw [hvv, hpp] at hfin
                      have r1 : 2 * pp - 1000000000 < 2000000000 * a := by omega
                      have r2 : 2000000000 * a ≤ 2 * pp + 1000000000 := by omega
                      clear hfin c1' c2' c3'
                      go_wp2_with fail
                      refine (awakeB_any _ (HV.out.below HB6.out)).mono ?_
                      rintro e w9 ⟨rfl, hb9⟩
                      have HB9 := Lib.hid (HB6.out.trans (hb9.mono hsz6))
                      clear hb9
                      go_wp2_with fail
                      go_ret
                      exact ⟨rfl, HB9.out⟩
            · have hzb : (e0 != 0) = true := by rw [bne_iff_ne]; exact hz
              have haz : a = 0 := by have h9 := amount_err (c := c) (i := i) (by rw [HA.out]; exact hz); rw [HA.out] at h9; exact h9
              subst haz
              clear hz
              go_wp2_with fail
              refine (awakeB_any _ (HV.out.below HB2.out)).mono ?_
              rintro e w9 ⟨rfl, hb9⟩
              have HB9 := Lib.hid (HB2.out.trans (hb9.mono hsz2))
              clear hb9
              go_wp2_with fail
              go_ret
              exact ⟨rfl, HB9.out⟩

end Go.Proofs.YtdbkdneolcgfjaaDoor
