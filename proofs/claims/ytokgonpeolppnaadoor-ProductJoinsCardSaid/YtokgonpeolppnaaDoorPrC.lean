/-
  The contracts of product's checkNumbers, Check.
-/
import Derived.Test.YtokgonpeolppnaaDoorPrB
import Derived.Test.YtokgonpeolppnaaDoorQuiet
namespace Go.Proofs.YtokgonpeolppnaaDoor
open Go.RowKit Saw Go.Sort

def IntB (n : Int) (w : World) (e : Ending) (w' : World) : Prop := e = .returned (.int .i64 n) ∧ Below w.heap.size w w'

set_option maxRecDepth 100000 in
set_option maxHeartbeats 1000000 in
theorem checkNumbers_any (x : Pr) (A1 A2 : Option Addr) (c1 c2 : Nat) (w : World) (h1 : RdI w w.heap.size (.slice A1 x.lens.length c1) x.lens) (h2 : RdI w w.heap.size (.slice A2 x.prices.length c2) x.prices) :
    Calls Tryd.prog 31 #[.agg #[.string (str x.name), .int .i64 x.thick, .int .i64 x.width, .int .i64 x.allow, .int .i64 x.wane, .slice A1 x.lens.length c1, .slice A2 x.prices.length c2]] w (IntB (checkNumP x) w) := by
  obtain ⟨r, hr⟩ : ∃ r, checkNumP x = r := ⟨_, rfl⟩
  rw [hr]
  obtain ⟨_, _, _, _, hl1⟩ := h1.form
  obtain ⟨_, _, _, _, hl2⟩ := h2.form
  unfold maxLen at hl1 hl2
  have HR := Lib.hid hr
  have HL := Lib.hid h1
  have HP := Lib.hid h2
  clear hr h1 h2
  by_cases g1 : x.thick < 5
  · have hrz : r = 9 := by rw [← HR.out, checkNumP, if_pos (by omega)]
    subst hrz
    clear HR HL HP hl1 hl2
    go_enter Tryd.func31, Tryd.ntmps31
    go_wp2_with fail
    go_ret
    exact ⟨rfl, (Below.refl _ _).alloc (Nat.le_refl _) _⟩
  · have k1 := Int.not_lt.1 g1
    clear g1
    by_cases g2 : 300 < x.thick
    · have hrz : r = 9 := by rw [← HR.out, checkNumP, if_pos (by omega)]
      subst hrz
      clear HR HL HP hl1 hl2
      go_enter Tryd.func31, Tryd.ntmps31
      go_wp2_with fail
      go_ret
      exact ⟨rfl, (Below.refl _ _).alloc (Nat.le_refl _) _⟩
    · have k2 := Int.not_lt.1 g2
      clear g2
      by_cases g3 : x.width < x.thick
      · have hrz : r = 9 := by rw [← HR.out, checkNumP, if_pos (by omega)]
        subst hrz
        clear HR HL HP hl1 hl2
        go_enter Tryd.func31, Tryd.ntmps31
        go_wp2_with fail
        go_ret
        exact ⟨rfl, (Below.refl _ _).alloc (Nat.le_refl _) _⟩
      · have k3 := Int.not_lt.1 g3
        clear g3
        by_cases g4 : 600 < x.width
        · have hrz : r = 9 := by rw [← HR.out, checkNumP, if_pos (by omega)]
          subst hrz
          clear HR HL HP hl1 hl2
          go_enter Tryd.func31, Tryd.ntmps31
          go_wp2_with fail
          go_ret
          exact ⟨rfl, (Below.refl _ _).alloc (Nat.le_refl _) _⟩
        · have k4 := Int.not_lt.1 g4
          clear g4
          by_cases g5 : x.allow < 0
          · have hrz : r = 9 := by rw [← HR.out, checkNumP, if_neg (by omega), if_pos (by omega)]
            subst hrz
            clear HR HL HP hl1 hl2
            go_enter Tryd.func31, Tryd.ntmps31
            go_wp2_with fail
            go_ret
            exact ⟨rfl, (Below.refl _ _).alloc (Nat.le_refl _) _⟩
          · have k5 := Int.not_lt.1 g5
            clear g5
            by_cases g6 : 200 < x.allow
            · have hrz : r = 9 := by rw [← HR.out, checkNumP, if_neg (by omega), if_pos (by omega)]
              subst hrz
              clear HR HL HP hl1 hl2
              go_enter Tryd.func31, Tryd.ntmps31
              go_wp2_with fail
              go_ret
              exact ⟨rfl, (Below.refl _ _).alloc (Nat.le_refl _) _⟩
            · have k6 := Int.not_lt.1 g6
              clear g6
              by_cases g7 : x.wane < 0
              · have hrz : r = 9 := by rw [← HR.out, checkNumP, if_neg (by omega), if_pos (by omega)]
                subst hrz
                clear HR HL HP hl1 hl2
                go_enter Tryd.func31, Tryd.ntmps31
                go_wp2_with fail
                go_ret
                exact ⟨rfl, (Below.refl _ _).alloc (Nat.le_refl _) _⟩
              · have k7 := Int.not_lt.1 g7
                clear g7
                by_cases g8 : 1000 < x.wane
                · have hrz : r = 9 := by rw [← HR.out, checkNumP, if_neg (by omega), if_pos (by omega)]
                  subst hrz
                  clear HR HL HP hl1 hl2
                  go_enter Tryd.func31, Tryd.ntmps31
                  go_wp2_with fail
                  go_ret
                  exact ⟨rfl, (Below.refl _ _).alloc (Nat.le_refl _) _⟩
                · have k8 := Int.not_lt.1 g8
                  clear g8
                  obtain ⟨gt, gw, hg⟩ : ∃ gt gw, greenP x = (gt, gw) := ⟨_, _, rfl⟩
                  have HGR := Lib.hid hg
                  have HR2 := Lib.hid (show (if 600 < gw then 9 else listsP x) = r by have h9 := HR.out; rw [checkNumP, if_neg (by omega), if_neg (by omega), hg] at h9; exact h9)
                  clear hg
                  go_enter Tryd.func31, Tryd.ntmps31
                  go_wp2_with fail
                  refine (green_any x A1 A2 _ _ _ _ _).mono ?_
                  rintro e w1 ⟨he, hb⟩
                  rw [HGR.out] at he
                  subst he
                  rw [World.size_alloc] at hb
                  have hbw : Below w.heap.size w w1 := ((Below.refl _ _).alloc (Nat.le_refl _) (.cells #[.string (str x.name), .int .i64 x.thick, .int .i64 x.width, .int .i64 x.allow, .int .i64 x.wane, .slice A1 x.lens.length c1, .slice A2 x.prices.length c2] 29)).trans (hb.mono (by omega))
                  have q5 : w1.cell? ⟨w.heap.size, 5, none⟩ = some (.slice A1 x.lens.length c1) := (hb.cell (p := ⟨w.heap.size, 5, none⟩) (Nat.lt_succ_self _)).trans (by rw [World.cell?_alloc_at _ _ _ _ rfl]; rfl)
                  have q6 : w1.cell? ⟨w.heap.size, 6, none⟩ = some (.slice A2 x.prices.length c2) := (hb.cell (p := ⟨w.heap.size, 6, none⟩) (Nat.lt_succ_self _)).trans (by rw [World.cell?_alloc_at _ _ _ _ rfl]; rfl)
                  have HB := Lib.hid hbw
                  have HL1 := Lib.hid (HL.out.below hbw)
                  have HP1 := Lib.hid (HP.out.below hbw)
                  clear hb hbw HR HL HP HGR
                  by_cases g9 : 600 < gw
                  · have hrz : r = 9 := by rw [← HR2.out, if_pos g9]
                    subst hrz
                    clear HR2
                    go_wp2_with fail
                    go_ret
                    exact ⟨rfl, HB.out⟩
                  · have k9 := Int.not_lt.1 g9
                    have HR3 := Lib.hid (show listsP x = r by rw [← HR2.out, if_neg g9])
                    clear g9 HR2
                    by_cases g10 : x.lens.length = 0
                    · have hrz : r = 3 := by rw [← HR3.out, listsP, if_pos g10]
                      subst hrz
                      have gb : ((x.lens.length : Int) == 0) = true := by rw [g10]; rfl
                      clear HR3 g10 HL1
                      go_wp2_with fail
                      go_ret
                      exact ⟨rfl, HB.out⟩
                    · have gb : ((x.lens.length : Int) == 0) = false := by rw [beq_eq_false_iff_ne]; omega
                      by_cases g11 : 8 < x.lens.length
                      · have hrz : r = 4 := by rw [← HR3.out, listsP, if_neg g10, if_pos g11]
                        subst hrz
                        clear HR3 g10
                        go_wp2_with fail
                        go_ret
                        exact ⟨rfl, HB.out⟩
                      · by_cases g12 : x.prices.length ≠ x.lens.length
                        · have hrz : r = 19 := by rw [← HR3.out, listsP, if_neg g10, if_neg g11, if_pos g12]
                          subst hrz
                          have gc : ((x.prices.length : Int) != (x.lens.length : Int)) = true := by rw [bne_iff_ne]; omega
                          clear HR3 g10 g12
                          go_wp2_with fail
                          go_ret
                          exact ⟨rfl, HB.out⟩
                        · have gc : ((x.prices.length : Int) != (x.lens.length : Int)) = false := by rw [bne_eq_false_iff_eq]; omega
                          obtain ⟨e0, he0⟩ : ∃ e0, lensFrom x.lens 0 = e0 := ⟨_, rfl⟩
                          have HE0 := Lib.hid he0
                          have HR4 := Lib.hid (show (if e0 ≠ 0 then e0 else pricesFrom x.prices 0) = r by rw [← HR3.out, listsP, if_neg g10, if_neg g11, if_neg g12, he0])
                          clear he0 HR3 g10 g12
                          go_wp2_with fail
                          go_loop [72] (fun i => ∃ k : Nat, k ≤ x.lens.length ∧ i = .int .i64 k ∧ lensFrom x.lens k = e0) (fun i => x.lens.length - (intOf i).toNat)
                          case atStart => exact ⟨0, by omega, rfl, HE0.out⟩
                          case round =>
                            obtain ⟨k, hk, rfl, hek⟩ := hrel
                            by_cases hlt : k < x.lens.length
                            · have hx : x.lens[k]? = some x.lens[k] := List.getElem?_eq_getElem hlt
                              obtain ⟨n, hn⟩ : ∃ n, x.lens[k] = n := ⟨_, rfl⟩
                              rw [hn] at hx
                              rw [lensFrom_at hx] at hek
                              obtain ⟨b, off, rfl, hbl, d0⟩ := RdI.at_ HL1.out hx
                              have HEK := Lib.hid hek
                              have HX := Lib.hid hx
                              clear hek hx hn
                              by_cases z1 : n < 100
                              · have hez : e0 = 9 := by rw [← HEK.out, if_pos (by omega)]
                                have hrz : r = 9 := by rw [← HR4.out, hez]; rfl
                                subst hrz
                                clear hez
                                go_wp2_with fail
                                go_ret
                                exact ⟨rfl, HB.out⟩
                              · by_cases z2 : 20000 < n
                                · have hez : e0 = 9 := by rw [← HEK.out, if_pos (by omega)]
                                  have hrz : r = 9 := by rw [← HR4.out, hez]; rfl
                                  subst hrz
                                  clear hez
                                  go_wp2_with fail
                                  go_ret
                                  exact ⟨rfl, HB.out⟩
                                · cases k with
                                  | zero =>
                                    have HN := Lib.hid (show lensFrom x.lens 1 = e0 by rw [← HEK.out, if_neg (by omega), if_neg (by omega)])
                                    rw [Nat.add_zero] at d0
                                    go_wp2_with fail
                                    exact ⟨⟨1, by omega, by go_num, HN.out⟩, by simp [intOf]; omega⟩
                                  | succ k =>
                                    have hy : x.lens[k]? = some x.lens[k] := List.getElem?_eq_getElem (by omega)
                                    obtain ⟨m, hm⟩ : ∃ m, x.lens[k] = m := ⟨_, rfl⟩
                                    rw [hm] at hy
                                    have hgd : x.lens.getD k 0 = m := by rw [List.getD_eq_getElem?_getD, hy]; rfl
                                    obtain ⟨b', off', hA, hbl', d1⟩ := RdI.at_ HL1.out hy
                                    injection hA with hA
                                    injection hA with e1 e2
                                    subst e1 e2
                                    have HEK2 := Lib.hid (show (if n ≤ m then 11 else lensFrom x.lens (k + 1 + 1)) = e0 by have h9 := HEK.out; rw [if_neg (by omega), Nat.add_sub_cancel, hgd] at h9; simpa using h9)
                                    clear hgd hy hm HEK
                                    by_cases z3 : n ≤ m
                                    · have hez : e0 = 11 := by rw [← HEK2.out, if_pos z3]
                                      have hrz : r = 11 := by rw [← HR4.out, hez]; rfl
                                      subst hrz
                                      clear hez
                                      go_wp2_with fail
                                      go_ret
                                      exact ⟨rfl, HB.out⟩
                                    · have HN := Lib.hid (show lensFrom x.lens (k + 1 + 1) = e0 by rw [← HEK2.out, if_neg z3])
                                      go_wp2_with fail
                                      exact ⟨⟨k + 1 + 1, by omega, by go_num, HN.out⟩, by simp [intOf]; omega⟩
                            · have he : e0 = 0 := by rw [← hek, lensFrom_end hlt]
                              have HR5 := Lib.hid (show pricesFrom x.prices 0 = r by rw [← HR4.out, if_neg (by rw [he]; simp)])
                              clear hek he HR4 HE0
                              go_wp2_with fail
                              go_loop [99] (fun i => ∃ k : Nat, k ≤ x.prices.length ∧ i = .int .i64 k ∧ pricesFrom x.prices k = r) (fun i => x.prices.length - (intOf i).toNat)
                              case atStart => exact ⟨0, by omega, rfl, HR5.out⟩
                              case round =>
                                obtain ⟨j, hj, rfl, hej⟩ := hrel
                                by_cases hltj : j < x.prices.length
                                · have hx : x.prices[j]? = some x.prices[j] := List.getElem?_eq_getElem hltj
                                  obtain ⟨n, hn⟩ : ∃ n, x.prices[j] = n := ⟨_, rfl⟩
                                  rw [hn] at hx
                                  rw [pricesFrom_at hx] at hej
                                  obtain ⟨b, off, rfl, hbl, d0⟩ := RdI.at_ HP1.out hx
                                  have HEK := Lib.hid hej
                                  clear hej hx hn
                                  by_cases z1 : n < 0
                                  · have hrz : r = 9 := by rw [← HEK.out, if_pos (by omega)]
                                    subst hrz
                                    go_wp2_with fail
                                    go_ret
                                    exact ⟨rfl, HB.out⟩
                                  · by_cases z2 : 1000000 < n
                                    · have hrz : r = 9 := by rw [← HEK.out, if_pos (by omega)]
                                      subst hrz
                                      go_wp2_with fail
                                      go_ret
                                      exact ⟨rfl, HB.out⟩
                                    · have HN := Lib.hid (show pricesFrom x.prices (j + 1) = r by rw [← HEK.out, if_neg (by omega)])
                                      go_wp2_with fail
                                      exact ⟨⟨j + 1, by omega, by go_num, HN.out⟩, by simp [intOf]; omega⟩
                                · have hrz : r = 0 := by rw [← hej, pricesFrom_end hltj]
                                  subst hrz
                                  clear hej HR5
                                  go_wp2_with fail
                                  go_ret
                                  exact ⟨rfl, HB.out⟩

end Go.Proofs.YtokgonpeolppnaaDoor
