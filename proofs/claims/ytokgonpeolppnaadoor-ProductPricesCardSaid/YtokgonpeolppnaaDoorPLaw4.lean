/-
  ProductPrices walked.
-/
import Derived.Test.YtokgonpeolppnaaDoorPLaw2
namespace Go.Proofs.YtokgonpeolppnaaDoor
open Go.RowKit Saw Go.Sort

set_option maxRecDepth 100000 in
set_option maxHeartbeats 2000000 in
theorem productPrices_walk (l : List Pr) (A : Option Addr) (c : Nat) (n : Int) (w : World) (h : RdPr w w.heap.size (.slice A l.length c) l ∧ ∀ x ∈ l, x.name.length ≤ maxLen) (hn : I64 n) (hv : VarsP w) :
    Calls Tryd.prog 10 #[.slice A l.length c, .int .i64 n] w (LawP w) := by
  obtain ⟨_, _, _, _, hml⟩ := h.1.form
  unfold maxLen at hml
  have HRD := Lib.hid h.1
  have HNM := Lib.hid (nameMax h.2)
  have HV := Lib.hid hv
  clear h hv hn
  go_enter Tryd.func10, Tryd.ntmps10
  go_wp2_with fail
  refine (short_any l _ _ HRD.out HNM.out).mono ?_
  rintro e w1 ⟨he, rfl⟩
  obtain ⟨q, hq⟩ : ∃ q, shortP l = q := ⟨_, rfl⟩
  rw [hq] at he
  subst he
  cases q with
  | false =>
    clear hq
    go_wp2_with fail
    refine (awakeP_any _ HV.out).mono ?_
    rintro e w2 ⟨rfl, hb2⟩
    have HB2 := Lib.hid hb2
    clear hb2
    go_wp2_with fail
    go_ret
    exact ⟨rfl, HB2.out⟩
  | true =>
    have HNS := Lib.hid (show ∀ x ∈ l, x.name.length ≤ 1000000 from fun x hx => by have := ((shortP_ok hq).2 x hx).2.2; omega)
    clear hq
    go_wp2_with fail
    refine (prCheck_any l _ _ HRD.out HNS.out).mono ?_
    rintro e w2 ⟨he, hb2⟩
    obtain ⟨q2, hq2⟩ : ∃ q2, checkPr l = q2 := ⟨_, rfl⟩
    rw [hq2] at he
    subst he
    have HB2 := Lib.hid hb2
    have hszw := hb2.size
    clear hb2
    by_cases hz : q2 = 0
    · subst hz
      obtain ⟨_, hall⟩ := checkPr_ok hq2
      have HALL := Lib.hid hall
      clear hall hq2
      go_wp2_with fail
      go_loopw [5] (fun i wr => ∃ k : Nat, k ≤ l.length ∧ i = .int .i64 k ∧ Below w.heap.size w wr) (fun i _ => l.length - (intOf i).toNat)
      case atStart => exact ⟨0, by omega, rfl, HB2.out⟩
      case round =>
        obtain ⟨i, hi, rfl, hb⟩ := hrel
        have HB := Lib.hid hb
        have hsz := hb.size
        clear hb
        by_cases hlt : i < l.length
        · have hx : l[i]? = some l[i] := List.getElem?_eq_getElem hlt
          obtain ⟨x, hxe⟩ : ∃ x, l[i] = x := ⟨_, rfl⟩
          rw [hxe] at hx
          have HOK := Lib.hid (prOk_of (HALL.out i x hx).2.2)
          obtain ⟨b, off, A1, c1, A2, c2, rfl, hbl, hm1, hm2, hri, hrp, p0, p1, p2, p3, p4, p5, p6⟩ := RdPr.at_ HRD.out hx
          unfold maxLen at hm1 hm2
          have HCE : Hid (∀ W, Below w.heap.size w W → (W.cell? ⟨b, off + i * 7, none⟩ = some (.string (str x.name)) ∧ W.cell? ⟨b, off + i * 7 + 1, none⟩ = some (.int .i64 x.thick) ∧ W.cell? ⟨b, off + i * 7 + 2, none⟩ = some (.int .i64 x.width) ∧ W.cell? ⟨b, off + i * 7 + 3, none⟩ = some (.int .i64 x.allow) ∧ W.cell? ⟨b, off + i * 7 + 4, none⟩ = some (.int .i64 x.wane) ∧ W.cell? ⟨b, off + i * 7 + 5, none⟩ = some (.slice A1 x.lens.length c1) ∧ W.cell? ⟨b, off + i * 7 + 6, none⟩ = some (.slice A2 x.prices.length c2)) ∧ RdI W W.heap.size (.slice A1 x.lens.length c1) x.lens ∧ RdI W W.heap.size (.slice A2 x.prices.length c2) x.prices) := fun W hW =>
            ⟨⟨(hW.cell (p := ⟨b, off + i * 7, none⟩) hbl).trans p0, (hW.cell (p := ⟨b, off + i * 7 + 1, none⟩) hbl).trans p1, (hW.cell (p := ⟨b, off + i * 7 + 2, none⟩) hbl).trans p2, (hW.cell (p := ⟨b, off + i * 7 + 3, none⟩) hbl).trans p3, (hW.cell (p := ⟨b, off + i * 7 + 4, none⟩) hbl).trans p4, (hW.cell (p := ⟨b, off + i * 7 + 5, none⟩) hbl).trans p5, (hW.cell (p := ⟨b, off + i * 7 + 6, none⟩) hbl).trans p6⟩, hri.next hW, hrp.next hW⟩
          have fi0 : (0 : Int) ≤ (i : Int) := by omega
          have fi1 : (i : Int) < (l.length : Int) := by omega
          clear hx hxe hri hrp p0 p1 p2 p3 p4 p5 p6
          go_wp2_with fail
          go_loopw [6, 7] (fun t j wr => ∃ k : Nat, k ≤ x.lens.length ∧ j = .int .i64 k ∧ t = .bool (hasN (x.lens.take k) n) ∧ Below w.heap.size w wr) (fun _ j _ => x.lens.length - (intOf j).toNat)
          case atStart => exact ⟨0, by omega, rfl, rfl, HB.out⟩
          case round =>
            obtain ⟨k, hk, rfl, rfl, hb4⟩ := hrel
            have HB4 := Lib.hid hb4
            have hsz4 := hb4.size
            clear hb4
            obtain ⟨⟨p0, p1, p2, p3, p4, p5, p6⟩, hri, hrp⟩ := HCE.out _ HB4.out
            by_cases hkl : k < x.lens.length
            · have hnx : x.lens[k]? = some x.lens[k] := List.getElem?_eq_getElem hkl
              obtain ⟨nn, hne⟩ : ∃ nn, x.lens[k] = nn := ⟨_, rfl⟩
              rw [hne] at hnx
              have hkp : k < x.prices.length := by have := HOK.out.lp; omega
              have hpx : x.prices[k]? = some x.prices[k] := List.getElem?_eq_getElem hkp
              obtain ⟨pp, hpe⟩ : ∃ pp, x.prices[k] = pp := ⟨_, rfl⟩
              rw [hpe] at hpx
              have HPR := Lib.hid (price_at HOK.out hnx hpx)
              have HHN := Lib.hid (hasN_snoc hnx n)
              obtain ⟨bn, on, rfl, hbn, cn⟩ := RdI.at_ hri hnx
              obtain ⟨bp, op, rfl, hbp, cp⟩ := RdI.at_ hrp hpx
              have f1 : (0 : Int) ≤ (k : Int) := by omega
              have f2 : (k : Int) < (x.prices.length : Int) := by omega
              have f3 : (k : Int) < (x.lens.length : Int) := by omega
              have S1 : Hid (∀ d os, Calls Tryd.prog 18 #[.agg #[.string (str x.name), .int .i64 x.thick, .int .i64 x.width, .int .i64 x.allow, .int .i64 x.wane, .slice (some ⟨bn, on, none⟩) x.lens.length c1, .slice (some ⟨bp, op, none⟩) x.prices.length c2], .int .i64 nn] (grow (redrawn wr d) os) fun e w' => e = .returned (.tuple #[.int .i64 pp, .bool true]) ∧ Below (grow (redrawn wr d) os).heap.size (grow (redrawn wr d) os) w') := fun d os => by
                have hb := below_regrown wr d os
                refine (price_any x _ _ c1 c2 nn _ (hri.next hb) (hrp.next hb)).mono ?_
                rintro e w' ⟨he, hb'⟩
                rw [HPR.out] at he
                exact ⟨he, hb'⟩
              have y : ∀ d os, (grow (redrawn wr d) os).cell? ⟨b, off + i * 7, none⟩ = some (.string (str x.name)) ∧ (grow (redrawn wr d) os).cell? ⟨b, off + i * 7 + 1, none⟩ = some (.int .i64 x.thick) ∧ (grow (redrawn wr d) os).cell? ⟨b, off + i * 7 + 2, none⟩ = some (.int .i64 x.width) ∧ (grow (redrawn wr d) os).cell? ⟨b, off + i * 7 + 3, none⟩ = some (.int .i64 x.allow) ∧ (grow (redrawn wr d) os).cell? ⟨b, off + i * 7 + 4, none⟩ = some (.int .i64 x.wane) ∧ (grow (redrawn wr d) os).cell? ⟨b, off + i * 7 + 5, none⟩ = some (.slice (some ⟨bn, on, none⟩) x.lens.length c1) ∧ (grow (redrawn wr d) os).cell? ⟨b, off + i * 7 + 6, none⟩ = some (.slice (some ⟨bp, op, none⟩) x.prices.length c2) ∧ (grow (redrawn wr d) os).cell? ⟨bn, on + k, none⟩ = some (.int .i64 nn) := fun d os => ⟨cell_regrown p0 d os, cell_regrown p1 d os, cell_regrown p2 d os, cell_regrown p3 d os, cell_regrown p4 d os, cell_regrown p5 d os, cell_regrown p6 d os, cell_regrown cn d os⟩
              have HCN := Lib.hid (show ∀ W, Below wr.heap.size wr W → W.cell? ⟨b, off + i * 7 + 6, none⟩ = some (.slice (some ⟨bp, op, none⟩) x.prices.length c2) ∧ W.cell? ⟨bp, op + k, none⟩ = some (.int .i64 pp) from fun W hW => ⟨(hW.cell (p := ⟨b, off + i * 7 + 6, none⟩) (by show b < _; omega)).trans p6, (hW.cell (p := ⟨bp, op + k, none⟩) hbp).trans cp⟩)
              clear hnx hne hpx hpe
              cases hth : hasN (x.lens.take k) n with
              | false =>
                have hfin : hasN (x.lens.take (k + 1)) n = (nn == n) := by rw [HHN.out, hth, Bool.false_or]
                have HFIN := Lib.hid hfin
                clear hth hfin
                go_wp2_with fail
                refine wp_region_quiet_below (by kernel_rfl) (by kernel_rfl) ?_
                repeat (first
                  | (open Go.BigFrame in go_big_quiet_step ((with_reducible exact Calls.regrown_of (S1.out _ _))))
                  | (quiet_step ((with_reducible exact Calls.regrown_of (S1.out _ _)))))
                refine wpQuiet_nil ?_
                rintro w6 ⟨z6, hw6⟩
                have hb6 : Below wr.heap.size wr w6 := by rw [hw6]; exact below_regrown _ _ _
                have HB6 := Lib.hid (HB4.out.trans (hb6.mono hsz4))
                obtain ⟨k6, k7⟩ := HCN.out _ hb6
                clear hw6 hb6 y p0 p1 p2 p3 p4 p5 p6 cn cp
                go_wp2_with fail
                exact ⟨⟨k + 1, by omega, by go_num, by rw [HFIN.out], HB6.out⟩, by simp [intOf]; omega⟩
              | true =>
                have HFIN := Lib.hid (show hasN (x.lens.take (k + 1)) n = true by rw [HHN.out, hth, Bool.true_or])
                clear hth
                go_wp2_with fail
                refine wp_region_quiet_below (by kernel_rfl) (by kernel_rfl) ?_
                repeat (first
                  | (open Go.BigFrame in go_big_quiet_step ((with_reducible exact Calls.regrown_of (S1.out _ _))))
                  | (quiet_step ((with_reducible exact Calls.regrown_of (S1.out _ _)))))
                refine wpQuiet_nil ?_
                rintro w6 ⟨z6, hw6⟩
                have hb6 : Below wr.heap.size wr w6 := by rw [hw6]; exact below_regrown _ _ _
                have HB6 := Lib.hid (HB4.out.trans (hb6.mono hsz4))
                obtain ⟨k6, k7⟩ := HCN.out _ hb6
                clear hw6 hb6 y p0 p1 p2 p3 p4 p5 p6 cn cp
                go_wp2_with fail
                exact ⟨⟨k + 1, by omega, by go_num, by rw [HFIN.out], HB6.out⟩, by simp [intOf]; omega⟩
            · have hkl' : k = x.lens.length := by omega
              have HPH := Lib.hid (price_has HOK.out n)
              obtain ⟨th, hth⟩ : ∃ th, hasN x.lens n = th := ⟨_, rfl⟩
              have hth2 : hasN (x.lens.take k) n = th := by rw [hkl', List.take_length, hth]
              rw [hth2]
              rw [hth] at HPH
              obtain ⟨o, ho⟩ : ∃ o, priceP x n = o := ⟨_, rfl⟩
              have HO := Lib.hid ho
              rw [ho] at HPH
              have hot : o.isSome = th := HPH.out
              clear hkl' hth hth2 ho
              go_wp2_with fail
              refine (price_any x A1 A2 c1 c2 n _ hri hrp).mono ?_
              rintro e w5 ⟨he, hb5⟩
              rw [HO.out] at he
              have HB5 := Lib.hid (HB4.out.trans (hb5.mono hsz4))
              clear hb5 p0 p1 p2 p3 p4 p5 p6 hri hrp
              cases o with
              | none =>
                subst hot
                subst he
                go_wp2_with fail
                exact ⟨⟨i + 1, by omega, by go_num, HB5.out⟩, by simp [intOf]; omega⟩
              | some p =>
                subst hot
                subst he
                go_wp2_with fail
                exact ⟨⟨i + 1, by omega, by go_num, HB5.out⟩, by simp [intOf]; omega⟩
        · go_wp2_with fail
          refine (awakeP_any _ (HV.out.below HB.out)).mono ?_
          rintro e w5 ⟨rfl, hb5⟩
          have HB5 := Lib.hid (HB.out.trans (hb5.mono hsz))
          clear hb5
          go_wp2_with fail
          go_ret
          exact ⟨rfl, HB5.out⟩
    · have hqb : (q2 != 0) = true := by rw [bne_iff_ne]; exact hz
      clear hq2 hz
      go_wp2_with fail
      refine (awakeP_any _ (HV.out.below HB2.out)).mono ?_
      rintro e w5 ⟨rfl, hb5⟩
      have HB5 := Lib.hid (HB2.out.trans (hb5.mono hszw))
      clear hb5
      go_wp2_with fail
      go_ret
      exact ⟨rfl, HB5.out⟩

end Go.Proofs.YtokgonpeolppnaaDoor
