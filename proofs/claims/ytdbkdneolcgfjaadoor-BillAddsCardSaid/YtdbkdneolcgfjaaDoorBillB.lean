/-
  The contracts of bill.Amount and sawmillref50.Amount.
-/
import Derived.Test.YtdbkdneolcgfjaaDoorBillA
namespace Saw
theorem volume_bd (x : Pr) (n : Int) : 0 ≤ volumeP x n ∧ volumeP x n ≤ 7200000000 := by
  unfold volumeP
  split
  · rename_i h
    simp only [sizeOkP, Bool.and_eq_true, decide_eq_true_eq] at h
    obtain ⟨⟨⟨⟨a1, a2⟩, ⟨a3, a4⟩⟩, a5⟩, a6⟩ := h
    have h1 : 0 ≤ x.thick * x.width := Int.mul_nonneg (by omega) (by omega)
    have h2 : x.thick * x.width ≤ 600 * 600 := Int.mul_le_mul a2 a4 (by omega) (by omega)
    refine ⟨Int.mul_nonneg h1 (by omega), ?_⟩
    have h3 : x.thick * x.width * n ≤ 360000 * 20000 := Int.mul_le_mul (by omega) a6 (by omega) (by omega)
    omega
  · omega
theorem checkNum_len {x : Pr} (h : checkNumP x = 0) : x.prices.length = x.lens.length := by
  unfold checkNumP at h
  split at h
  · cases h
  · split at h
    · cases h
    · split at h
      · cases h
      · unfold listsP at h
        split at h
        · cases h
        · split at h
          · cases h
          · split at h
            · cases h
            · rename_i hh; omega
theorem checkPr_mem {l : List Pr} : ∀ (n k : Nat), l.length - k ≤ n → checkPrFrom l k = 0 → ∀ (i : Nat) (x : Pr), k ≤ i → l[i]? = some x → isNameP x.name = true ∧ checkNumP x = 0 := by
  intro n
  induction n with
  | zero => intro k hk _ i x hi hx; have := (List.getElem?_eq_some_iff.1 hx).1; omega
  | succ n ih =>
    intro k hk h i x hi hx
    have hil := (List.getElem?_eq_some_iff.1 hx).1
    have hkx : l[k]? = some l[k] := List.getElem?_eq_getElem (by omega)
    rw [checkPr_at hkx] at h
    split at h
    · cases h
    · rename_i h1
      split at h
      · cases h
      · split at h
        · rename_i h3; exact absurd h h3
        · rename_i h3
          by_cases hik : i = k
          · subst hik
            rw [hkx] at hx
            injection hx with hx
            subst hx
            exact ⟨by simpa using h1, by simpa using h3⟩
          · exact ih (k + 1) (by omega) h i x (by omega) hx
theorem checkPr_all {l : List Pr} (h : checkPr l = 0) : l.length ≤ 16 ∧ ∀ (i : Nat) (x : Pr), l[i]? = some x → isNameP x.name = true ∧ checkNumP x = 0 := by
  unfold checkPr at h
  split at h
  · cases h
  · rename_i h16
    exact ⟨by omega, fun i x hx => checkPr_mem _ 0 (Nat.le_refl _) h i x (Nat.zero_le _) hx⟩
theorem priceL_some (n : Int) : ∀ (ls ps : List Int), ps.length = ls.length → (priceL ls ps n).isSome = decide (n ∈ ls)
  | [], _, _ => by simp [priceL]
  | m :: r, [], h => by simp at h
  | m :: r, p :: q, h => by
    rw [priceL]
    by_cases hm : m = n
    · rw [if_pos hm]; subst hm; simp
    · rw [if_neg hm, List.tail_cons, priceL_some n r q (by simpa using h)]
      simp [Ne.symm hm]
end Saw
namespace Go.Proofs.YtdbkdneolcgfjaaDoor
open Go.RowKit Saw Go.Sort

theorem range7 {w : World} {b o : Nat} {v0 v1 v2 v3 v4 v5 v6 : Value} (h0 : w.cell? ⟨b, o, none⟩ = some v0) (h1 : w.cell? ⟨b, o + 1, none⟩ = some v1) (h2 : w.cell? ⟨b, o + 2, none⟩ = some v2) (h3 : w.cell? ⟨b, o + 3, none⟩ = some v3)
    (h4 : w.cell? ⟨b, o + 4, none⟩ = some v4) (h5 : w.cell? ⟨b, o + 5, none⟩ = some v5) (h6 : w.cell? ⟨b, o + 6, none⟩ = some v6) : w.rangeAt b o [v0, v1, v2, v3, v4, v5, v6] := fun j v hv => by
  match j, hv with
  | 0, hv => injection hv with hv; subst hv; exact h0
  | 1, hv => injection hv with hv; subst hv; exact h1
  | 2, hv => injection hv with hv; subst hv; exact h2
  | 3, hv => injection hv with hv; subst hv; exact h3
  | 4, hv => injection hv with hv; subst hv; exact h4
  | 5, hv => injection hv with hv; subst hv; exact h5
  | 6, hv => injection hv with hv; subst hv; exact h6
  | n + 7, hv => cases hv

def AmtPost (r : Int × Int) (w : World) (e : Ending) (w' : World) : Prop := e = .returned (.tuple #[.int .i64 r.1, .int .i64 r.2]) ∧ Below w.heap.size w w'

set_option maxRecDepth 100000 in
set_option maxHeartbeats 2000000 in
theorem amount_any (c : List Pr) (v : Value) (i : It) (w : World) (hrd : RdPr w w.heap.size v c) (hnm : ∀ x ∈ c, x.name.length ≤ 1000000) :
    Calls Tryd.prog 12 #[v, .agg #[.int .i64 i.product, .int .i64 i.length, .int .i64 i.count, .int .i64 i.price]] w (AmtPost (amountP c i) w) := by
  obtain ⟨A, cc, rfl, hcc, hml⟩ := hrd.form
  obtain ⟨r, hr⟩ : ∃ r, amountP c i = r := ⟨_, rfl⟩
  rw [hr]
  unfold maxLen at hml
  unfold amountP at hr
  obtain ⟨e0, he0⟩ : ∃ e0, checkPr c = e0 := ⟨_, rfl⟩
  rw [he0] at hr
  have HE0 := Lib.hid he0
  have HR := Lib.hid hr
  have hb0 : Below w.heap.size w (w.alloc (.cells #[.int .i64 i.product, .int .i64 i.length, .int .i64 i.count, .int .i64 i.price] 28)) := (Below.refl _ _).alloc (Nat.le_refl _) _
  have HRD := Lib.hid hrd
  have HNM := Lib.hid hnm
  have HRD0 := Lib.hid (hrd.next hb0)
  have HB0 := Lib.hid hb0
  clear hr he0 hrd hnm hb0
  go_enter Tryd.func12, Tryd.ntmps12
  go_wp2_with fail
  refine (prCheck_any c _ _ HRD0.out HNM.out).mono ?_
  rintro e w1 ⟨he, hb⟩
  rw [HE0.out] at he
  subst he
  rw [World.size_alloc] at hb
  have hbw : Below w.heap.size w w1 := HB0.out.trans (hb.mono (by omega))
  have HB := Lib.hid hbw
  have hsz1 : w.heap.size + 1 ≤ w1.heap.size := by have := hb.size; rw [World.size_alloc] at this; exact this
  have s0 : w1.cell? ⟨w.heap.size, 0, none⟩ = some (.int .i64 i.product) := (hb.cell (p := ⟨w.heap.size, 0, none⟩) (by show w.heap.size < _; omega)).trans (by rw [World.cell?_alloc_at _ _ _ _ rfl]; rfl)
  have s1 : w1.cell? ⟨w.heap.size, 1, none⟩ = some (.int .i64 i.length) := (hb.cell (p := ⟨w.heap.size, 1, none⟩) (by show w.heap.size < _; omega)).trans (by rw [World.cell?_alloc_at _ _ _ _ rfl]; rfl)
  have s2 : w1.cell? ⟨w.heap.size, 2, none⟩ = some (.int .i64 i.count) := (hb.cell (p := ⟨w.heap.size, 2, none⟩) (by show w.heap.size < _; omega)).trans (by rw [World.cell?_alloc_at _ _ _ _ rfl]; rfl)
  have s3 : w1.cell? ⟨w.heap.size, 3, none⟩ = some (.int .i64 i.price) := (hb.cell (p := ⟨w.heap.size, 3, none⟩) (by show w.heap.size < _; omega)).trans (by rw [World.cell?_alloc_at _ _ _ _ rfl]; rfl)
  have HRD1 := Lib.hid (HRD.out.below hbw)
  clear hb hbw HRD0 HB0
  by_cases hz : e0 = 0
  · subst hz
    have HR1 := Lib.hid (show amountOk c i = r by have h9 := HR.out; rw [if_neg (by simp)] at h9; exact h9)
    clear HR
    by_cases g1 : i.product < 0
    · have hrz : r = (0, 8) := by rw [← HR1.out, amountOk, if_pos (.inl g1)]
      subst hrz
      clear HR1
      go_wp2_with fail
      go_ret2
      exact ⟨rfl, HB.out⟩
    · by_cases g2 : (c.length : Int) ≤ i.product
      · have hrz : r = (0, 8) := by rw [← HR1.out, amountOk, if_pos (.inr g2)]
        subst hrz
        have k1 := Int.not_lt.1 g1
        clear HR1 g1
        go_wp2_with fail
        go_ret2
        exact ⟨rfl, HB.out⟩
      · obtain ⟨k, hk⟩ : ∃ k : Nat, i.product = k := ⟨i.product.toNat, by omega⟩
        have hkl : k < c.length := by omega
        have hx : c[k]? = some c[k] := List.getElem?_eq_getElem hkl
        obtain ⟨x, hxe⟩ : ∃ x, c[k] = x := ⟨_, rfl⟩
        rw [hxe] at hx
        have hgd : c.getD i.product.toNat Pr.zero = x := by rw [hk, Int.toNat_natCast, List.getD_eq_getElem?_getD, hx]; rfl
        have HR2 := Lib.hid (show (if i.length ∉ x.lens then (0, 20) else if i.count < 0 ∨ 200 < i.count ∨ i.price < 0 ∨ 1000000000 < i.price then (0, 9) else (amtP (volumeP x i.length * i.count) i.price, 0)) = r by
          have h9 := HR1.out; rw [amountOk, if_neg (by omega), hgd] at h9; exact h9)
        have hch := (checkPr_all HE0.out).2 k x hx
        have HLEN := Lib.hid (checkNum_len hch.2)
        obtain ⟨b, off, A1, c1, A2, c2, rfl, hbl, hm1, hm2, hri, hrp, q0, q1, q2, q3, q4, q5, q6⟩ := RdPr.at_ HRD1.out hx
        have HRI := Lib.hid hri
        have HRP := Lib.hid hrp
        unfold maxLen at hm1 hm2
        rw [hk] at s0
        have hk0 : (0 : Int) ≤ (k : Int) := by omega
        have hk1 : (k : Int) < (c.length : Int) := by omega
        clear hxe hx hgd hch HR1 hri hrp g1 g2
        have a1 : (w1.alloc (.cells #[.string (str x.name), .int .i64 x.thick, .int .i64 x.width, .int .i64 x.allow, .int .i64 x.wane, .slice A1 x.lens.length c1, .slice A2 x.prices.length c2] 53)).cell? ⟨w.heap.size, 1, none⟩ = some (.int .i64 i.length) := (((Below.refl w1.heap.size w1).alloc (Nat.le_refl _) _).cell (p := ⟨w.heap.size, 1, none⟩) (by show w.heap.size < _; omega)).trans s1
        go_wp2_with fail
        clear a1
        obtain ⟨N, hN⟩ : ∃ N, w1.heap.size = N := ⟨_, rfl⟩
        obtain ⟨W2, hW2⟩ : ∃ W2, w1.alloc (.cells #[.string (str x.name), .int .i64 x.thick, .int .i64 x.width, .int .i64 x.allow, .int .i64 x.wane, .slice A1 x.lens.length c1, .slice A2 x.prices.length c2] 53) = W2 := ⟨_, rfl⟩
        have hG2 : W2.heap[N]? = some (.cells #[.string (str x.name), .int .i64 x.thick, .int .i64 x.width, .int .i64 x.allow, .int .i64 x.wane, .slice A1 x.lens.length c1, .slice A2 x.prices.length c2] 53 (0, 0)) := by rw [← hW2, ← hN]; exact heap_alloc_last w1 _
        have hb2 : Below w1.heap.size w1 W2 := by rw [← hW2]; exact (Below.refl _ _).alloc (Nat.le_refl _) _
        have hz2 : W2.heap.size = N + 1 := by rw [← hW2, World.size_alloc, hN]
        have HG2 := Lib.hid hG2
        have HB2 := Lib.hid (HB.out.trans (hb2.mono (by omega)))
        have HRI2 := Lib.hid (((show RdI w1 w.heap.size _ x.lens from HRI.out).below (hb2.mono (by omega))).more (show w.heap.size ≤ W2.heap.size by omega))
        have u0 : W2.cell? ⟨w.heap.size, 0, none⟩ = some (.int .i64 (k : Int)) := (hb2.cell (p := ⟨w.heap.size, 0, none⟩) (by show w.heap.size < _; omega)).trans s0
        have u1 : W2.cell? ⟨w.heap.size, 1, none⟩ = some (.int .i64 i.length) := (hb2.cell (p := ⟨w.heap.size, 1, none⟩) (by show w.heap.size < _; omega)).trans s1
        have u2 : W2.cell? ⟨w.heap.size, 2, none⟩ = some (.int .i64 i.count) := (hb2.cell (p := ⟨w.heap.size, 2, none⟩) (by show w.heap.size < _; omega)).trans s2
        have u3 : W2.cell? ⟨w.heap.size, 3, none⟩ = some (.int .i64 i.price) := (hb2.cell (p := ⟨w.heap.size, 3, none⟩) (by show w.heap.size < _; omega)).trans s3
        rw [hW2, hN]
        clear s0 s1 s2 s3 q0 q1 q2 q3 q4 q5 q6 hW2 hb2 hG2
        refine (contains_any x.lens _ i.length _ HRI2.out).mono ?_
        rintro e w3 ⟨he, hw3⟩
        rw [hw3]
        clear hw3
        by_cases hmem : i.length ∈ x.lens
        · rw [decide_eq_true hmem] at he
          subst he
          have HR2b := Lib.hid (show (if i.count < 0 ∨ 200 < i.count ∨ i.price < 0 ∨ 1000000000 < i.price then (0, 9) else (amtP (volumeP x i.length * i.count) i.price, 0)) = r by have h9 := HR2.out; rw [if_neg (by simpa using hmem)] at h9; exact h9)
          clear hmem HR2
          by_cases j1 : i.count < 0
          · have hrz : r = (0, 9) := by rw [← HR2b.out, if_pos (by omega)]
            subst hrz
            clear HR2b
            go_wp2_with fail
            go_ret2
            exact ⟨rfl, HB2.out⟩
          · have l1 := Int.not_lt.1 j1
            clear j1
            by_cases j2 : 200 < i.count
            · have hrz : r = (0, 9) := by rw [← HR2b.out, if_pos (by omega)]
              subst hrz
              clear HR2b
              go_wp2_with fail
              go_ret2
              exact ⟨rfl, HB2.out⟩
            · have l2 := Int.not_lt.1 j2
              clear j2
              by_cases j3 : i.price < 0
              · have hrz : r = (0, 9) := by rw [← HR2b.out, if_pos (by omega)]
                subst hrz
                clear HR2b
                go_wp2_with fail
                go_ret2
                exact ⟨rfl, HB2.out⟩
              · have l3 := Int.not_lt.1 j3
                clear j3
                by_cases j4 : 1000000000 < i.price
                · have hrz : r = (0, 9) := by rw [← HR2b.out, if_pos (by omega)]
                  subst hrz
                  clear HR2b
                  go_wp2_with fail
                  go_ret2
                  exact ⟨rfl, HB2.out⟩
                · have l4 := Int.not_lt.1 j4
                  clear j4
                  have HR3 := Lib.hid (show (amtP (volumeP x i.length * i.count) i.price, (0 : Int)) = r by have h9 := HR2b.out; rw [if_neg (by omega)] at h9; exact h9)
                  clear HR2b
                  have vb := volume_bd x i.length
                  obtain ⟨vol, hvol⟩ : ∃ vol, volumeP x i.length = vol := ⟨_, rfl⟩
                  rw [hvol] at vb
                  obtain ⟨vv, hvv⟩ : ∃ vv, vol * i.count = vv := ⟨_, rfl⟩
                  have vb2 := mul_bd (a := vol) (b := i.count) (x := 7200000000) (y := 200) vb.1 vb.2 (by omega) (by omega)
                  rw [hvv] at vb2
                  obtain ⟨m2, hm2'⟩ : ∃ m2, vv % 1000000000 = m2 := ⟨_, rfl⟩
                  obtain ⟨d2, hd2⟩ : ∃ d2, vv / 1000000000 = d2 := ⟨_, rfl⟩
                  have t1 : vv.tdiv 1000000000 = d2 := by rw [Int.tdiv_eq_ediv_of_nonneg vb2.1]; exact hd2
                  have t2 : vv.tmod 1000000000 = m2 := by rw [Int.tmod_eq_emod_of_nonneg vb2.1]; exact hm2'
                  have bm := mul_bd (a := m2) (b := i.price) (x := 1000000000) (y := 1000000000) (by omega) (by omega) (by omega) (by omega)
                  have bd := mul_bd (a := d2) (b := i.price) (x := 1440) (y := 1000000000) (by omega) (by omega) (by omega) (by omega)
                  obtain ⟨mp, hmp⟩ : ∃ mp, m2 * i.price = mp := ⟨_, rfl⟩
                  obtain ⟨dp, hdp⟩ : ∃ dp, d2 * i.price = dp := ⟨_, rfl⟩
                  rw [hmp] at bm
                  rw [hdp] at bd
                  obtain ⟨vv1, vv2⟩ := vb2
                  obtain ⟨bm1, bm2⟩ := bm
                  obtain ⟨bd1, bd2⟩ := bd
                  have hrz : r = (dp + (mp + 500000000) / 1000000000, 0) := by rw [← HR3.out, amtP, hvol, hvv, hd2, hm2', hmp, hdp]
                  subst hrz
                  have HVOL := Lib.hid hvol
                  have SV : Hid (∀ W, Calls Tryd.prog 22 #[.agg #[.string (str x.name), .int .i64 x.thick, .int .i64 x.width, .int .i64 x.allow, .int .i64 x.wane, .slice A1 x.lens.length c1, .slice A2 x.prices.length c2], .int .i64 i.length] W fun e w' => e = .returned (.int .i64 vol) ∧ Below W.heap.size W w') := fun W => (volume_any x A1 A2 _ _ _ _ i.length W).mono fun e w' ⟨he, hb⟩ => ⟨by rw [he, HVOL.out], hb⟩
                  have y1 : ∀ d os, (grow (redrawn W2 d) os).cell? ⟨w.heap.size, 1, none⟩ = some (.int .i64 i.length) := fun d os => cell_regrown u1 d os
                  have y2 : ∀ d os, (grow (redrawn W2 d) os).cell? ⟨w.heap.size, 2, none⟩ = some (.int .i64 i.count) := fun d os => cell_regrown u2 d os
                  have HRN := Lib.hid (show W2.rangeAt N 0 [.string (str x.name), .int .i64 x.thick, .int .i64 x.width, .int .i64 x.allow, .int .i64 x.wane, .slice A1 x.lens.length c1, .slice A2 x.prices.length c2] from rangeAt_block HG2.out)
                  have hNW : N < W2.heap.size := by omega
                  clear hvol HR3
                  go_wp2_with fail
                  refine wp_region_quiet_below (by kernel_rfl) (by kernel_rfl) ?_
                  repeat (first
                    | ((with_reducible refine quiet_load N 0 [.string (str x.name), .int .i64 x.thick, .int .i64 x.width, .int .i64 x.allow, .int .i64 x.wane, .slice A1 x.lens.length c1, .slice A2 x.prices.length c2] ?hw ?hx HRN.out hNW Tryd.underlying53 ?hd ?hi ?_); (case hi => kernel_rfl); (case hw => kernel_rfl); (case hx => rfl); (case hd => rfl))
                    | (open Go.BigFrame in go_big_quiet_step ((with_reducible exact Calls.regrown_of (SV.out _))))
                    | (quiet_step ((with_reducible exact Calls.regrown_of (SV.out _)))))
                  refine wpQuiet_nil ?_
                  rintro w6 ⟨z6, hw6⟩
                  have hb6 : Below W2.heap.size W2 w6 := by rw [hw6]; exact below_regrown _ _ _
                  have HB6 := Lib.hid (HB2.out.trans (hb6.mono (by omega)))
                  have v3 : w6.cell? ⟨w.heap.size, 3, none⟩ = some (.int .i64 i.price) := (hb6.cell (p := ⟨w.heap.size, 3, none⟩) (by show w.heap.size < _; omega)).trans u3
                  have hsz6 : w.heap.size + 1 ≤ w6.heap.size := by have := hb6.size; omega
                  clear hw6 hb6 y1 y2 u0 u1 u2 u3
                  go_wp2_with fail
                  refine (nearest_any mp _ bm1 (by omega)).mono ?_
                  rintro e w7 ⟨rfl, hb7⟩
                  have HB7 := Lib.hid (HB6.out.trans (hb7.mono (by omega)))
                  have v3' : w7.cell? ⟨w.heap.size, 3, none⟩ = some (.int .i64 i.price) := (hb7.cell (p := ⟨w.heap.size, 3, none⟩) (by show w.heap.size < _; omega)).trans v3
                  clear hb7 v3
                  obtain ⟨nn, hnn⟩ : ∃ nn, (mp + 500000000) / 1000000000 = nn := ⟨_, rfl⟩
                  have bn1 : 0 ≤ nn := by omega
                  have bn2 : nn ≤ 2000000000 := by omega
                  rw [hnn]
                  have HNN := Lib.hid hnn
                  clear hnn
                  go_wp2_with fail
                  go_ret2
                  exact ⟨by show Ending.returned (.tuple #[.int .i64 (dp + nn), .int .i64 0]) = Ending.returned (.tuple #[.int .i64 (dp + (mp + 500000000) / 1000000000), .int .i64 0]); rw [HNN.out], HB7.out⟩
        · rw [decide_eq_false hmem] at he
          subst he
          have hrz : r = (0, 20) := by rw [← HR2.out, if_pos hmem]
          subst hrz
          clear hmem HR2
          go_wp2_with fail
          go_ret2
          exact ⟨rfl, HB2.out⟩
  · have hrz : r = (0, e0) := by rw [← HR.out, if_pos hz]
    subst hrz
    have hzb : (e0 != 0) = true := by rw [bne_iff_ne]; exact hz
    clear hz HR
    go_wp2_with fail
    go_ret2
    exact ⟨rfl, HB.out⟩

set_option maxRecDepth 100000 in
set_option maxHeartbeats 2000000 in
theorem refAmount_any (c : List Pr) (v : Value) (i : It) (w : World) (hrd : RdPr w w.heap.size v c) (hnm : ∀ x ∈ c, x.name.length ≤ 1000000) :
    Calls Tryd.prog 13 #[v, .agg #[.int .i64 i.product, .int .i64 i.length, .int .i64 i.count, .int .i64 i.price]] w (AmtPost (amountP c i) w) := by
  obtain ⟨A, cc, rfl, hcc, hml⟩ := hrd.form
  obtain ⟨r, hr⟩ : ∃ r, amountP c i = r := ⟨_, rfl⟩
  rw [hr]
  unfold maxLen at hml
  unfold amountP at hr
  obtain ⟨e0, he0⟩ : ∃ e0, checkPr c = e0 := ⟨_, rfl⟩
  rw [he0] at hr
  have HE0 := Lib.hid he0
  have HR := Lib.hid hr
  have hb0 : Below w.heap.size w (w.alloc (.cells #[.int .i64 i.product, .int .i64 i.length, .int .i64 i.count, .int .i64 i.price] 35)) := (Below.refl _ _).alloc (Nat.le_refl _) _
  have HRD := Lib.hid hrd
  have HNM := Lib.hid hnm
  have HRD0 := Lib.hid (hrd.next hb0)
  have HB0 := Lib.hid hb0
  clear hr he0 hrd hnm hb0
  go_enter Tryd.func13, Tryd.ntmps13
  go_wp2_with fail
  refine (refPrCheck_any c _ _ HRD0.out HNM.out).mono ?_
  rintro e w1 ⟨he, hb⟩
  rw [HE0.out] at he
  subst he
  rw [World.size_alloc] at hb
  have hbw : Below w.heap.size w w1 := HB0.out.trans (hb.mono (by omega))
  have HB := Lib.hid hbw
  have hsz1 : w.heap.size + 1 ≤ w1.heap.size := by have := hb.size; rw [World.size_alloc] at this; exact this
  have s0 : w1.cell? ⟨w.heap.size, 0, none⟩ = some (.int .i64 i.product) := (hb.cell (p := ⟨w.heap.size, 0, none⟩) (by show w.heap.size < _; omega)).trans (by rw [World.cell?_alloc_at _ _ _ _ rfl]; rfl)
  have s1 : w1.cell? ⟨w.heap.size, 1, none⟩ = some (.int .i64 i.length) := (hb.cell (p := ⟨w.heap.size, 1, none⟩) (by show w.heap.size < _; omega)).trans (by rw [World.cell?_alloc_at _ _ _ _ rfl]; rfl)
  have s2 : w1.cell? ⟨w.heap.size, 2, none⟩ = some (.int .i64 i.count) := (hb.cell (p := ⟨w.heap.size, 2, none⟩) (by show w.heap.size < _; omega)).trans (by rw [World.cell?_alloc_at _ _ _ _ rfl]; rfl)
  have s3 : w1.cell? ⟨w.heap.size, 3, none⟩ = some (.int .i64 i.price) := (hb.cell (p := ⟨w.heap.size, 3, none⟩) (by show w.heap.size < _; omega)).trans (by rw [World.cell?_alloc_at _ _ _ _ rfl]; rfl)
  have HRD1 := Lib.hid (HRD.out.below hbw)
  clear hb hbw HRD0 HB0
  by_cases hz : e0 = 0
  · subst hz
    have HR1 := Lib.hid (show amountOk c i = r by have h9 := HR.out; rw [if_neg (by simp)] at h9; exact h9)
    clear HR
    by_cases g1 : i.product < 0
    · have hrz : r = (0, 8) := by rw [← HR1.out, amountOk, if_pos (.inl g1)]
      subst hrz
      clear HR1
      go_wp2_with fail
      go_ret2
      exact ⟨rfl, HB.out⟩
    · by_cases g2 : (c.length : Int) ≤ i.product
      · have hrz : r = (0, 8) := by rw [← HR1.out, amountOk, if_pos (.inr g2)]
        subst hrz
        have k1 := Int.not_lt.1 g1
        clear HR1 g1
        go_wp2_with fail
        go_ret2
        exact ⟨rfl, HB.out⟩
      · obtain ⟨k, hk⟩ : ∃ k : Nat, i.product = k := ⟨i.product.toNat, by omega⟩
        have hkl : k < c.length := by omega
        have hx : c[k]? = some c[k] := List.getElem?_eq_getElem hkl
        obtain ⟨x, hxe⟩ : ∃ x, c[k] = x := ⟨_, rfl⟩
        rw [hxe] at hx
        have hgd : c.getD i.product.toNat Pr.zero = x := by rw [hk, Int.toNat_natCast, List.getD_eq_getElem?_getD, hx]; rfl
        have HR2 := Lib.hid (show (if i.length ∉ x.lens then (0, 20) else if i.count < 0 ∨ 200 < i.count ∨ i.price < 0 ∨ 1000000000 < i.price then (0, 9) else (amtP (volumeP x i.length * i.count) i.price, 0)) = r by
          have h9 := HR1.out; rw [amountOk, if_neg (by omega), hgd] at h9; exact h9)
        have hch := (checkPr_all HE0.out).2 k x hx
        have HLEN := Lib.hid (checkNum_len hch.2)
        obtain ⟨b, off, A1, c1, A2, c2, rfl, hbl, hm1, hm2, hri, hrp, q0, q1, q2, q3, q4, q5, q6⟩ := RdPr.at_ HRD1.out hx
        have HRI := Lib.hid hri
        have HRP := Lib.hid hrp
        unfold maxLen at hm1 hm2
        rw [hk] at s0
        have hk0 : (0 : Int) ≤ (k : Int) := by omega
        have hk1 : (k : Int) < (c.length : Int) := by omega
        clear hxe hx hgd hch HR1 hri hrp g1 g2
        have HRN := Lib.hid (show w1.rangeAt b (off + k * 7) [.string (str x.name), .int .i64 x.thick, .int .i64 x.width, .int .i64 x.allow, .int .i64 x.wane, .slice A1 x.lens.length c1, .slice A2 x.prices.length c2] from range7 q0 q1 q2 q3 q4 q5 q6)
        have hbw1 : b < w1.heap.size := by omega
        obtain ⟨rp, hrp⟩ : ∃ rp, priceP x i.length = rp := ⟨_, rfl⟩
        obtain ⟨pv, hpv⟩ : ∃ pv, rp.getD 0 = pv := ⟨_, rfl⟩
        obtain ⟨ok, hok⟩ : ∃ ok, rp.isSome = ok := ⟨_, rfl⟩
        have HMEM := Lib.hid (show ok = decide (i.length ∈ x.lens) by rw [← hok, ← hrp, priceP, priceL_some _ _ _ HLEN.out])
        have SP : Hid (∀ d os, Calls Tryd.prog 28 #[.agg #[.string (str x.name), .int .i64 x.thick, .int .i64 x.width, .int .i64 x.allow, .int .i64 x.wane, .slice A1 x.lens.length c1, .slice A2 x.prices.length c2], .int .i64 i.length] (grow (redrawn w1 d) os) fun e w' => e = .returned (.tuple #[.int .i64 pv, .bool ok]) ∧ Below (grow (redrawn w1 d) os).heap.size (grow (redrawn w1 d) os) w') := fun d os => by
          have hbl2 := below_regrown w1 d os
          have hle : w.heap.size ≤ (grow (redrawn w1 d) os).heap.size := Nat.le_trans (by omega) hbl2.size
          refine (refPrice_any x A1 A2 c1 c2 i.length _ (((show RdI w1 w.heap.size _ x.lens from HRI.out).below (hbl2.mono (by omega))).more hle) (((show RdI w1 w.heap.size _ x.prices from HRP.out).below (hbl2.mono (by omega))).more hle)).mono ?_
          rintro e w' ⟨he, hb'⟩
          rw [hrp, hpv, hok] at he
          exact ⟨he, hb'⟩
        have y0 : ∀ d os, (grow (redrawn w1 d) os).cell? ⟨w.heap.size, 0, none⟩ = some (.int .i64 (k : Int)) := fun d os => cell_regrown s0 d os
        have y1 : ∀ d os, (grow (redrawn w1 d) os).cell? ⟨w.heap.size, 1, none⟩ = some (.int .i64 i.length) := fun d os => cell_regrown s1 d os
        clear hrp hpv hok q0 q1 q2 q3 q4 q5 q6
        go_wp2_with fail
        refine wp_region_quiet_below (by kernel_rfl) (by kernel_rfl) ?_
        repeat (first
          | ((with_reducible refine quiet_load b (off + k * 7) [.string (str x.name), .int .i64 x.thick, .int .i64 x.width, .int .i64 x.allow, .int .i64 x.wane, .slice A1 x.lens.length c1, .slice A2 x.prices.length c2] ?hw ?hx HRN.out hbw1 Tryd.underlying53 ?hd ?hi ?_); (case hi => kernel_rfl); (case hw => kernel_rfl); (case hx => rfl); (case hd => rfl))
          | (open Go.BigFrame in go_big_quiet_step ((with_reducible exact Calls.regrown_of (SP.out _ _))))
          | (quiet_step ((with_reducible exact Calls.regrown_of (SP.out _ _)))))
        refine wpQuiet_nil ?_
        rintro w6 ⟨z6, hw6⟩
        have hb6 : Below w1.heap.size w1 w6 := by rw [hw6]; exact below_regrown _ _ _
        have HB6 := Lib.hid (HB.out.trans (hb6.mono (by omega)))
        have hsz6 : w.heap.size + 1 ≤ w6.heap.size := by have := hb6.size; omega
        have u0 : w6.cell? ⟨w.heap.size, 0, none⟩ = some (.int .i64 (k : Int)) := (hb6.cell (p := ⟨w.heap.size, 0, none⟩) (by show w.heap.size < _; omega)).trans s0
        have u1 : w6.cell? ⟨w.heap.size, 1, none⟩ = some (.int .i64 i.length) := (hb6.cell (p := ⟨w.heap.size, 1, none⟩) (by show w.heap.size < _; omega)).trans s1
        have u2 : w6.cell? ⟨w.heap.size, 2, none⟩ = some (.int .i64 i.count) := (hb6.cell (p := ⟨w.heap.size, 2, none⟩) (by show w.heap.size < _; omega)).trans s2
        have u3 : w6.cell? ⟨w.heap.size, 3, none⟩ = some (.int .i64 i.price) := (hb6.cell (p := ⟨w.heap.size, 3, none⟩) (by show w.heap.size < _; omega)).trans s3
        have HRN6 := Lib.hid (rangeAt_below hb6 hbw1 HRN.out)
        have hbw6 : b < w6.heap.size := by omega
        clear hw6 hb6 y0 y1 s0 s1 s2 s3 HRN hbw1
        cases ok with
        | true =>
          have hmm : i.length ∈ x.lens := by simpa using HMEM.out.symm
          have HR2b := Lib.hid (show (if i.count < 0 ∨ 200 < i.count ∨ i.price < 0 ∨ 1000000000 < i.price then (0, 9) else (amtP (volumeP x i.length * i.count) i.price, 0)) = r by have h9 := HR2.out; rw [if_neg (by simpa using hmm)] at h9; exact h9)
          clear HMEM hmm HR2
          by_cases j1 : i.count < 0
          · have hrz : r = (0, 9) := by rw [← HR2b.out, if_pos (by omega)]
            subst hrz
            clear HR2b
            go_wp2_with fail
            go_ret2
            exact ⟨rfl, HB6.out⟩
          · have l1 := Int.not_lt.1 j1
            clear j1
            by_cases j2 : 200 < i.count
            · have hrz : r = (0, 9) := by rw [← HR2b.out, if_pos (by omega)]
              subst hrz
              clear HR2b
              go_wp2_with fail
              go_ret2
              exact ⟨rfl, HB6.out⟩
            · have l2 := Int.not_lt.1 j2
              clear j2
              by_cases j3 : i.price < 0
              · have hrz : r = (0, 9) := by rw [← HR2b.out, if_pos (by omega)]
                subst hrz
                clear HR2b
                go_wp2_with fail
                go_ret2
                exact ⟨rfl, HB6.out⟩
              · have l3 := Int.not_lt.1 j3
                clear j3
                by_cases j4 : 1000000000 < i.price
                · have hrz : r = (0, 9) := by rw [← HR2b.out, if_pos (by omega)]
                  subst hrz
                  clear HR2b
                  go_wp2_with fail
                  go_ret2
                  exact ⟨rfl, HB6.out⟩
                · have l4 := Int.not_lt.1 j4
                  clear j4
                  have HR3 := Lib.hid (show (amtP (volumeP x i.length * i.count) i.price, (0 : Int)) = r by have h9 := HR2b.out; rw [if_neg (by omega)] at h9; exact h9)
                  clear HR2b
                  have vb := volume_bd x i.length
                  obtain ⟨vol, hvol⟩ : ∃ vol, volumeP x i.length = vol := ⟨_, rfl⟩
                  rw [hvol] at vb
                  obtain ⟨vv, hvv⟩ : ∃ vv, vol * i.count = vv := ⟨_, rfl⟩
                  have vb2 := mul_bd (a := vol) (b := i.count) (x := 7200000000) (y := 200) vb.1 vb.2 (by omega) (by omega)
                  rw [hvv] at vb2
                  obtain ⟨m2, hm2'⟩ : ∃ m2, vv % 1000000000 = m2 := ⟨_, rfl⟩
                  obtain ⟨d2, hd2⟩ : ∃ d2, vv / 1000000000 = d2 := ⟨_, rfl⟩
                  have t1 : vv.tdiv 1000000000 = d2 := by rw [Int.tdiv_eq_ediv_of_nonneg vb2.1]; exact hd2
                  have t2 : vv.tmod 1000000000 = m2 := by rw [Int.tmod_eq_emod_of_nonneg vb2.1]; exact hm2'
                  have bm := mul_bd (a := m2) (b := i.price) (x := 1000000000) (y := 1000000000) (by omega) (by omega) (by omega) (by omega)
                  have bd := mul_bd (a := d2) (b := i.price) (x := 1440) (y := 1000000000) (by omega) (by omega) (by omega) (by omega)
                  obtain ⟨mp, hmp⟩ : ∃ mp, m2 * i.price = mp := ⟨_, rfl⟩
                  obtain ⟨dp, hdp⟩ : ∃ dp, d2 * i.price = dp := ⟨_, rfl⟩
                  rw [hmp] at bm
                  rw [hdp] at bd
                  obtain ⟨vv1, vv2⟩ := vb2
                  obtain ⟨bm1, bm2⟩ := bm
                  obtain ⟨bd1, bd2⟩ := bd
                  have hrz : r = (dp + (mp + 500000000) / 1000000000, 0) := by rw [← HR3.out, amtP, hvol, hvv, hd2, hm2', hmp, hdp]
                  subst hrz
                  have HVOL := Lib.hid hvol
                  have SV : Hid (∀ W, Calls Tryd.prog 29 #[.agg #[.string (str x.name), .int .i64 x.thick, .int .i64 x.width, .int .i64 x.allow, .int .i64 x.wane, .slice A1 x.lens.length c1, .slice A2 x.prices.length c2], .int .i64 i.length] W fun e w' => e = .returned (.int .i64 vol) ∧ Below W.heap.size W w') := fun W => (refVolume_any x A1 A2 _ _ _ _ i.length W).mono fun e w' ⟨he, hb⟩ => ⟨by rw [he, HVOL.out], hb⟩
                  have y0 : ∀ d os, (grow (redrawn w6 d) os).cell? ⟨w.heap.size, 0, none⟩ = some (.int .i64 (k : Int)) := fun d os => cell_regrown u0 d os
                  have y1 : ∀ d os, (grow (redrawn w6 d) os).cell? ⟨w.heap.size, 1, none⟩ = some (.int .i64 i.length) := fun d os => cell_regrown u1 d os
                  have y2 : ∀ d os, (grow (redrawn w6 d) os).cell? ⟨w.heap.size, 2, none⟩ = some (.int .i64 i.count) := fun d os => cell_regrown u2 d os
                  clear hvol HR3
                  go_wp2_with fail
                  refine wp_region_quiet_below (by kernel_rfl) (by kernel_rfl) ?_
                  repeat (first
                    | ((with_reducible refine quiet_load b (off + k * 7) [.string (str x.name), .int .i64 x.thick, .int .i64 x.width, .int .i64 x.allow, .int .i64 x.wane, .slice A1 x.lens.length c1, .slice A2 x.prices.length c2] ?hw ?hx HRN6.out hbw6 Tryd.underlying53 ?hd ?hi ?_); (case hi => kernel_rfl); (case hw => kernel_rfl); (case hx => rfl); (case hd => rfl))
                    | (open Go.BigFrame in go_big_quiet_step ((with_reducible exact Calls.regrown_of (SV.out _))))
                    | (quiet_step ((with_reducible exact Calls.regrown_of (SV.out _)))))
                  refine wpQuiet_nil ?_
                  rintro w7 ⟨z7, hw7⟩
                  have hb7 : Below w6.heap.size w6 w7 := by rw [hw7]; exact below_regrown _ _ _
                  have HB7 := Lib.hid (HB6.out.trans (hb7.mono (by omega)))
                  have v3 : w7.cell? ⟨w.heap.size, 3, none⟩ = some (.int .i64 i.price) := (hb7.cell (p := ⟨w.heap.size, 3, none⟩) (by show w.heap.size < _; omega)).trans u3
                  clear hw7 hb7 y0 y1 y2 u0 u1 u2 u3
                  have t3 : (mp + 500000000).tdiv 1000000000 = (mp + 500000000) / 1000000000 := Int.tdiv_eq_ediv_of_nonneg (by omega)
                  obtain ⟨nn, hnn⟩ : ∃ nn, (mp + 500000000) / 1000000000 = nn := ⟨_, rfl⟩
                  have bn1 : 0 ≤ nn := by omega
                  have bn2 : nn ≤ 2000000000 := by omega
                  rw [hnn] at t3
                  have HNN := Lib.hid hnn
                  clear hnn
                  go_wp2_with fail
                  go_ret2
                  exact ⟨by show Ending.returned (.tuple #[.int .i64 (dp + nn), .int .i64 0]) = Ending.returned (.tuple #[.int .i64 (dp + (mp + 500000000) / 1000000000), .int .i64 0]); rw [HNN.out], HB7.out⟩
        | false =>
          have hmm : i.length ∉ x.lens := by simpa using HMEM.out.symm
          have hrz : r = (0, 20) := by rw [← HR2.out, if_pos hmm]
          subst hrz
          clear HMEM hmm HR2
          go_wp2_with fail
          go_ret2
          exact ⟨rfl, HB6.out⟩
  · have hrz : r = (0, e0) := by rw [← HR.out, if_pos hz]
    subst hrz
    have hzb : (e0 != 0) = true := by rw [bne_iff_ne]; exact hz
    clear hz HR
    go_wp2_with fail
    go_ret2
    exact ⟨rfl, HB.out⟩
end Go.Proofs.YtdbkdneolcgfjaaDoor