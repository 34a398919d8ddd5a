/-
  The contracts of sawmillref19's sized, Green, Volume, Price, checkLengths.
-/
import Derived.Test.YtokgonpeolppnaaDoorPrD
import Derived.Test.YtokgonpeolppnaaDoorWRefB
namespace Go.Proofs.YtokgonpeolppnaaDoor
open Go.RowKit Saw Go.Sort

set_option maxRecDepth 100000 in
set_option maxHeartbeats 400000 in
theorem sized_any (x : Pr) (A1 A2 : Option Addr) (n1 c1 n2 c2 : Nat) (w : World) :
    Calls Tryd.prog 37 #[.agg #[.string (str x.name), .int .i64 x.thick, .int .i64 x.width, .int .i64 x.allow, .int .i64 x.wane, .slice A1 n1 c1, .slice A2 n2 c2]] w fun e w' => e = .returned (.bool (sizeOkP x.thick && sizeOkP x.width)) ∧ Below w.heap.size w w' := by
  obtain ⟨r, hr⟩ : ∃ r, (sizeOkP x.thick && sizeOkP x.width) = r := ⟨_, rfl⟩
  rw [hr]
  simp only [sizeOkP] at hr
  by_cases g1 : x.thick < 1
  · have hrz : r = false := by rw [← hr, Bool.eq_false_iff]; intro hc; simp only [Bool.and_eq_true, decide_eq_true_eq] at hc; omega
    subst hrz
    clear hr
    go_enter Tryd.func37, Tryd.ntmps37
    go_wp2_with fail
    go_ret
    exact ⟨ret_bool (by first | rfl | (rw [decide_eq_false_iff_not]; omega)), (Below.refl _ _).alloc (Nat.le_refl _) _⟩
  · have k1 := Int.not_lt.1 g1
    clear g1
    by_cases g2 : 600 < x.thick
    · have hrz : r = false := by rw [← hr, Bool.eq_false_iff]; intro hc; simp only [Bool.and_eq_true, decide_eq_true_eq] at hc; omega
      subst hrz
      clear hr
      go_enter Tryd.func37, Tryd.ntmps37
      go_wp2_with fail
      go_ret
      exact ⟨ret_bool (by first | rfl | (rw [decide_eq_false_iff_not]; omega)), (Below.refl _ _).alloc (Nat.le_refl _) _⟩
    · have k2 := Int.not_lt.1 g2
      clear g2
      by_cases g3 : x.width < 1
      · have hrz : r = false := by rw [← hr, Bool.eq_false_iff]; intro hc; simp only [Bool.and_eq_true, decide_eq_true_eq] at hc; omega
        subst hrz
        clear hr
        go_enter Tryd.func37, Tryd.ntmps37
        go_wp2_with fail
        go_ret
        exact ⟨ret_bool (by first | rfl | (rw [decide_eq_false_iff_not]; omega)), (Below.refl _ _).alloc (Nat.le_refl _) _⟩
      · have k3 := Int.not_lt.1 g3
        clear g3
        by_cases g4 : 600 < x.width
        · have hrz : r = false := by rw [← hr, Bool.eq_false_iff]; intro hc; simp only [Bool.and_eq_true, decide_eq_true_eq] at hc; omega
          subst hrz
          clear hr
          go_enter Tryd.func37, Tryd.ntmps37
          go_wp2_with fail
          go_ret
          exact ⟨ret_bool (by first | rfl | (rw [decide_eq_false_iff_not]; omega)), (Below.refl _ _).alloc (Nat.le_refl _) _⟩
        · have k4 := Int.not_lt.1 g4
          clear g4
          have hrz : r = true := by rw [← hr]; simp only [Bool.and_eq_true, decide_eq_true_eq]; omega
          subst hrz
          clear hr
          go_enter Tryd.func37, Tryd.ntmps37
          go_wp2_with fail
          go_ret
          exact ⟨rfl, (Below.refl _ _).alloc (Nat.le_refl _) _⟩

set_option maxRecDepth 100000 in
set_option maxHeartbeats 400000 in
theorem refVolume_any (x : Pr) (A1 A2 : Option Addr) (n1 c1 n2 c2 : Nat) (n : Int) (w : World) :
    Calls Tryd.prog 21 #[.agg #[.string (str x.name), .int .i64 x.thick, .int .i64 x.width, .int .i64 x.allow, .int .i64 x.wane, .slice A1 n1 c1, .slice A2 n2 c2], .int .i64 n] w fun e w' => e = .returned (.int .i64 (volumeP x n)) ∧ Below w.heap.size w w' := by
  obtain ⟨r, hr⟩ : ∃ r, volumeP x n = r := ⟨_, rfl⟩
  rw [hr]
  unfold volumeP at hr
  have HR := Lib.hid hr
  clear hr
  go_enter Tryd.func21, Tryd.ntmps21
  go_wp2_with fail
  refine (sized_any x A1 A2 _ _ _ _ _).mono ?_
  rintro e w1 ⟨he, hb⟩
  rw [World.size_alloc] at hb
  have HB := Lib.hid (((Below.refl _ _).alloc (Nat.le_refl _) (.cells #[.string (str x.name), .int .i64 x.thick, .int .i64 x.width, .int .i64 x.allow, .int .i64 x.wane, .slice A1 n1 c1, .slice A2 n2 c2] 29)).trans (hb.mono (by omega)))
  have q1 : w1.cell? ⟨w.heap.size, 1, none⟩ = some (.int .i64 x.thick) := (hb.cell (p := ⟨w.heap.size, 1, none⟩) (by show w.heap.size < _; omega)).trans (by rw [World.cell?_alloc_at _ _ _ _ rfl]; rfl)
  have q2 : w1.cell? ⟨w.heap.size, 2, none⟩ = some (.int .i64 x.width) := (hb.cell (p := ⟨w.heap.size, 2, none⟩) (by show w.heap.size < _; omega)).trans (by rw [World.cell?_alloc_at _ _ _ _ rfl]; rfl)
  cases hz : (sizeOkP x.thick && sizeOkP x.width) with
  | false =>
    rw [hz] at he
    subst he
    have hrz : r = 0 := by rw [← HR.out, hz]; rfl
    subst hrz
    clear hb
    go_wp2_with fail
    go_ret
    exact ⟨rfl, HB.out⟩
  | true =>
    rw [hz] at he
    subst he
    have hr := HR.out
    rw [hz] at hr
    simp only [Bool.true_and, Bool.and_eq_true, decide_eq_true_eq] at hr
    simp only [sizeOkP, Bool.and_eq_true, decide_eq_true_eq] at hz
    clear hb
    by_cases h3 : 1 ≤ n ∧ n ≤ 20000
    · rw [if_pos h3] at hr
      obtain ⟨h3, h4⟩ := h3
      obtain ⟨p, hp⟩ : ∃ p, x.thick * x.width = p := ⟨_, rfl⟩
      have b1 := mul_bd (a := x.thick) (b := x.width) (x := 600) (y := 600) (by omega) (by omega) (by omega) (by omega)
      rw [hp] at b1 hr
      have b2 := mul_bd (a := p) (b := n) (x := 360000) (y := 20000) (by omega) (by omega) (by omega) (by omega)
      rw [hr] at b2
      obtain ⟨b1a, b1b⟩ := b1
      obtain ⟨b2a, b2b⟩ := b2
      clear hz HR
      go_wp2_with fail
      go_ret
      exact ⟨rfl, HB.out⟩
    · rw [if_neg h3] at hr
      subst hr
      clear hz HR
      by_cases h4 : n < 1
      · clear h3
        go_wp2_with fail
        go_ret
        exact ⟨rfl, HB.out⟩
      · have h5 : 20000 < n := by omega
        clear h3
        go_wp2_with fail
        go_ret
        exact ⟨rfl, HB.out⟩

set_option maxRecDepth 100000 in
set_option maxHeartbeats 400000 in
theorem refGreen_any (x : Pr) (A1 A2 : Option Addr) (n1 c1 n2 c2 : Nat) (w : World) :
    Calls Tryd.prog 17 #[.agg #[.string (str x.name), .int .i64 x.thick, .int .i64 x.width, .int .i64 x.allow, .int .i64 x.wane, .slice A1 n1 c1, .slice A2 n2 c2]] w fun e w' => e = .returned (.tuple #[.int .i64 (greenP x).1, .int .i64 (greenP x).2]) ∧ Below w.heap.size w w' := by
  obtain ⟨r, hr⟩ : ∃ r, greenP x = r := ⟨_, rfl⟩
  rw [hr]
  unfold greenP at hr
  have HR := Lib.hid hr
  clear hr
  go_enter Tryd.func17, Tryd.ntmps17
  go_wp2_with fail
  refine (sized_any x A1 A2 _ _ _ _ _).mono ?_
  rintro e w1 ⟨he, hb⟩
  rw [World.size_alloc] at hb
  have HB := Lib.hid (((Below.refl _ _).alloc (Nat.le_refl _) (.cells #[.string (str x.name), .int .i64 x.thick, .int .i64 x.width, .int .i64 x.allow, .int .i64 x.wane, .slice A1 n1 c1, .slice A2 n2 c2] 29)).trans (hb.mono (by omega)))
  have q1 : w1.cell? ⟨w.heap.size, 1, none⟩ = some (.int .i64 x.thick) := (hb.cell (p := ⟨w.heap.size, 1, none⟩) (by show w.heap.size < _; omega)).trans (by rw [World.cell?_alloc_at _ _ _ _ rfl]; rfl)
  have q2 : w1.cell? ⟨w.heap.size, 2, none⟩ = some (.int .i64 x.width) := (hb.cell (p := ⟨w.heap.size, 2, none⟩) (by show w.heap.size < _; omega)).trans (by rw [World.cell?_alloc_at _ _ _ _ rfl]; rfl)
  have q3 : w1.cell? ⟨w.heap.size, 3, none⟩ = some (.int .i64 x.allow) := (hb.cell (p := ⟨w.heap.size, 3, none⟩) (by show w.heap.size < _; omega)).trans (by rw [World.cell?_alloc_at _ _ _ _ rfl]; rfl)
  cases hz : (sizeOkP x.thick && sizeOkP x.width) with
  | false =>
    rw [hz] at he
    subst he
    have hrz : r = (0, 0) := by rw [← HR.out, hz]; rfl
    subst hrz
    clear hb
    go_wp2_with fail
    go_ret2
    exact ⟨rfl, HB.out⟩
  | true =>
    rw [hz] at he
    subst he
    have hr := HR.out
    rw [hz] at hr
    simp only [Bool.true_and, Bool.and_eq_true, decide_eq_true_eq] at hr
    simp only [sizeOkP, Bool.and_eq_true, decide_eq_true_eq] at hz
    clear hb
    by_cases h3 : 0 ≤ x.allow ∧ x.allow ≤ 200
    · rw [if_pos h3] at hr
      obtain ⟨h3, h4⟩ := h3
      obtain ⟨p, hp⟩ : ∃ p, x.thick * (1000 + x.allow) = p := ⟨_, rfl⟩
      obtain ⟨p', hp'⟩ : ∃ p, x.width * (1000 + x.allow) = p := ⟨_, rfl⟩
      have b1 := mul_bd (a := x.thick) (b := 1000 + x.allow) (x := 600) (y := 1200) (by omega) (by omega) (by omega) (by omega)
      have b2 := mul_bd (a := x.width) (b := 1000 + x.allow) (x := 600) (y := 1200) (by omega) (by omega) (by omega) (by omega)
      rw [hp] at b1
      rw [hp'] at b2
      unfold growP at hr
      rw [hp, hp'] at hr
      subst hr
      have t1 : (p + 999).tdiv 1000 = (p + 999) / 1000 := Int.tdiv_eq_ediv_of_nonneg (by omega)
      have t2 : (p' + 999).tdiv 1000 = (p' + 999) / 1000 := Int.tdiv_eq_ediv_of_nonneg (by omega)
      obtain ⟨b1a, b1b⟩ := b1
      obtain ⟨b2a, b2b⟩ := b2
      clear hz HR
      go_wp2_with fail
      go_quiet (fail)
      go_wp2_with fail
      go_ret2
      exact ⟨rfl, below_drewNn HB.out _⟩
    · rw [if_neg h3] at hr
      subst hr
      clear hz HR
      by_cases h4 : x.allow < 0
      · clear h3
        go_wp2_with fail
        go_ret2
        exact ⟨rfl, HB.out⟩
      · have h5 : 200 < x.allow := by omega
        clear h3
        go_wp2_with fail
        go_ret2
        exact ⟨rfl, HB.out⟩


set_option maxRecDepth 100000 in
set_option maxHeartbeats 1000000 in
theorem checkLengths_any (x : Pr) (A1 A2 : Option Addr) (c1 c2 : Nat) (w : World) (h1 : RdI w w.heap.size (.slice A1 x.lens.length c1) x.lens) (h2 : RdI w w.heap.size (.slice A2 x.prices.length c2) x.prices) :
    Calls Tryd.prog 33 #[.agg #[.string (str x.name), .int .i64 x.thick, .int .i64 x.width, .int .i64 x.allow, .int .i64 x.wane, .slice A1 x.lens.length c1, .slice A2 x.prices.length c2]] w (IntB (listsP x) w) := by
  obtain ⟨r, hr⟩ : ∃ r, listsP x = r := ⟨_, rfl⟩
  rw [hr]
  obtain ⟨_, _, _, _, hl1⟩ := h1.form
  obtain ⟨_, _, _, _, hl2⟩ := h2.form
  unfold maxLen at hl1 hl2
  have HR3 := Lib.hid hr
  have hb0 : Below w.heap.size w (w.alloc (.cells #[.string (str x.name), .int .i64 x.thick, .int .i64 x.width, .int .i64 x.allow, .int .i64 x.wane, .slice A1 x.lens.length c1, .slice A2 x.prices.length c2] 29)) := (Below.refl _ _).alloc (Nat.le_refl _) _
  have HL0 := Lib.hid h1
  have HP0 := Lib.hid h2
  have HB := Lib.hid hb0
  clear hr h1 h2 hb0
  go_enter Tryd.func33, Tryd.ntmps33
  by_cases g10 : x.lens.length = 0
  · have hrz : r = 3 := by rw [← HR3.out, listsP, if_pos g10]
    subst hrz
    have gb : ((x.lens.length : Int) == 0) = true := by rw [g10]; rfl
    clear HR3 g10
    go_wp2_with fail
    go_ret
    exact ⟨rfl, HB.out⟩
  · have gb : ((x.lens.length : Int) == 0) = false := by rw [beq_eq_false_iff_ne]; omega
    by_cases g11 : 8 < x.lens.length
    · have hrz : r = 4 := by rw [← HR3.out, listsP, if_neg g10, if_pos g11]
      subst hrz
      clear HR3 g10
      go_wp2_with fail
      go_ret
      exact ⟨rfl, HB.out⟩
    · by_cases g12 : x.prices.length ≠ x.lens.length
      · have hrz : r = 19 := by rw [← HR3.out, listsP, if_neg g10, if_neg g11, if_pos g12]
        subst hrz
        have gc : ((x.prices.length : Int) != (x.lens.length : Int)) = true := by rw [bne_iff_ne]; omega
        clear HR3 g10 g12
        go_wp2_with fail
        go_ret
        exact ⟨rfl, HB.out⟩
      · have gc : ((x.prices.length : Int) != (x.lens.length : Int)) = false := by rw [bne_eq_false_iff_eq]; omega
        obtain ⟨e0, he0⟩ : ∃ e0, lensFrom x.lens 0 = e0 := ⟨_, rfl⟩
        have HE0 := Lib.hid he0
        have HR4 := Lib.hid (show (if e0 ≠ 0 then e0 else pricesFrom x.prices 0) = r by rw [← HR3.out, listsP, if_neg g10, if_neg g11, if_neg g12, he0])
        clear he0 HR3 g10 g12
        go_wp2_with fail
        go_loopw [3] (fun i wr => ∃ k : Nat, k ≤ x.lens.length ∧ i = .int .i64 k ∧ lensFrom x.lens k = e0 ∧ Below w.heap.size w wr ∧ wr.cell? ⟨w.heap.size, 5, none⟩ = some (.slice A1 x.lens.length c1) ∧ wr.cell? ⟨w.heap.size, 6, none⟩ = some (.slice A2 x.prices.length c2)) (fun i _ => x.lens.length - (intOf i).toNat)
        case atStart => exact ⟨0, by omega, rfl, HE0.out, HB.out, by rw [World.cell?_alloc_at _ _ _ _ rfl]; rfl, by rw [World.cell?_alloc_at _ _ _ _ rfl]; rfl⟩
        case round =>
          obtain ⟨k, hk, rfl, hek, hbr, q5, q6⟩ := hrel
          have HL1 := Lib.hid (HL0.out.below hbr)
          have HP1 := Lib.hid (HP0.out.below hbr)
          clear HB
          have HB := Lib.hid hbr
          clear hbr
          by_cases hlt : k < x.lens.length
          · have hx : x.lens[k]? = some x.lens[k] := List.getElem?_eq_getElem hlt
            obtain ⟨n, hn⟩ : ∃ n, x.lens[k] = n := ⟨_, rfl⟩
            rw [hn] at hx
            rw [lensFrom_at hx] at hek
            obtain ⟨b, off, rfl, hbl, d0⟩ := RdI.at_ HL1.out hx
            have HEK := Lib.hid hek
            have HX := Lib.hid hx
            clear hek hx hn
            by_cases z1 : n < 100
            · have hez : e0 = 9 := by rw [← HEK.out, if_pos (by omega)]
              have hrz : r = 9 := by rw [← HR4.out, hez]; rfl
              subst hrz
              clear hez
              go_wp2_with fail
              go_ret
              exact ⟨rfl, HB.out⟩
            · by_cases z2 : 20000 < n
              · have hez : e0 = 9 := by rw [← HEK.out, if_pos (by omega)]
                have hrz : r = 9 := by rw [← HR4.out, hez]; rfl
                subst hrz
                clear hez
                go_wp2_with fail
                go_ret
                exact ⟨rfl, HB.out⟩
              · cases k with
                | zero =>
                  have HN := Lib.hid (show lensFrom x.lens 1 = e0 by rw [← HEK.out, if_neg (by omega), if_neg (by omega)])
                  rw [Nat.add_zero] at d0
                  go_wp2_with fail
                  go_quiet (fail)
                  go_wp2_with fail
                  exact ⟨⟨1, by omega, by go_num, HN.out, below_drewNn HB.out _, q5, q6⟩, by simp [intOf]; omega⟩
                | succ k =>
                  have hy : x.lens[k]? = some x.lens[k] := List.getElem?_eq_getElem (by omega)
                  obtain ⟨m, hm⟩ : ∃ m, x.lens[k] = m := ⟨_, rfl⟩
                  rw [hm] at hy
                  have hgd : x.lens.getD k 0 = m := by rw [List.getD_eq_getElem?_getD, hy]; rfl
                  obtain ⟨b', off', hA, hbl', d1⟩ := RdI.at_ HL1.out hy
                  injection hA with hA
                  injection hA with e1 e2
                  subst e1 e2
                  have HEK2 := Lib.hid (show (if n ≤ m then 11 else lensFrom x.lens (k + 1 + 1)) = e0 by have h9 := HEK.out; rw [if_neg (by omega), Nat.add_sub_cancel, hgd] at h9; simpa using h9)
                  clear hgd hy hm HEK
                  by_cases z3 : n ≤ m
                  · have hez : e0 = 11 := by rw [← HEK2.out, if_pos z3]
                    have hrz : r = 11 := by rw [← HR4.out, hez]; rfl
                    subst hrz
                    clear hez
                    go_wp2_with fail
                    go_quiet (fail)
                    go_wp2_with fail
                    go_ret
                    exact ⟨rfl, below_drewNn HB.out _⟩
                  · have HN := Lib.hid (show lensFrom x.lens (k + 1 + 1) = e0 by rw [← HEK2.out, if_neg z3])
                    go_wp2_with fail
                    go_quiet (fail)
                    go_wp2_with fail
                    exact ⟨⟨k + 1 + 1, by omega, by go_num, HN.out, below_drewNn HB.out _, q5, q6⟩, by simp [intOf]; omega⟩
          · have he : e0 = 0 := by rw [← hek, lensFrom_end hlt]
            have HR5 := Lib.hid (show pricesFrom x.prices 0 = r by rw [← HR4.out, if_neg (by rw [he]; simp)])
            clear hek he HR4 HE0
            go_wp2_with fail
            go_loop [4] (fun i => ∃ k : Nat, k ≤ x.prices.length ∧ i = .int .i64 k ∧ pricesFrom x.prices k = r) (fun i => x.prices.length - (intOf i).toNat)
            case atStart => exact ⟨0, by omega, rfl, HR5.out⟩
            case round =>
              obtain ⟨j, hj, rfl, hej⟩ := hrel
              by_cases hltj : j < x.prices.length
              · have hx : x.prices[j]? = some x.prices[j] := List.getElem?_eq_getElem hltj
                obtain ⟨n, hn⟩ : ∃ n, x.prices[j] = n := ⟨_, rfl⟩
                rw [hn] at hx
                rw [pricesFrom_at hx] at hej
                obtain ⟨b, off, rfl, hbl, d0⟩ := RdI.at_ HP1.out hx
                have HEK := Lib.hid hej
                clear hej hx hn
                by_cases z1 : n < 0
                · have hrz : r = 9 := by rw [← HEK.out, if_pos (by omega)]
                  subst hrz
                  go_wp2_with fail
                  go_ret
                  exact ⟨rfl, HB.out⟩
                · by_cases z2 : 1000000 < n
                  · have hrz : r = 9 := by rw [← HEK.out, if_pos (by omega)]
                    subst hrz
                    go_wp2_with fail
                    go_ret
                    exact ⟨rfl, HB.out⟩
                  · have HN := Lib.hid (show pricesFrom x.prices (j + 1) = r by rw [← HEK.out, if_neg (by omega)])
                    go_wp2_with fail
                    exact ⟨⟨j + 1, by omega, by go_num, HN.out⟩, by simp [intOf]; omega⟩
              · have hrz : r = 0 := by rw [← hej, pricesFrom_end hltj]
                subst hrz
                clear hej HR5
                go_wp2_with fail
                go_ret
                exact ⟨rfl, HB.out⟩

end Go.Proofs.YtokgonpeolppnaaDoor
