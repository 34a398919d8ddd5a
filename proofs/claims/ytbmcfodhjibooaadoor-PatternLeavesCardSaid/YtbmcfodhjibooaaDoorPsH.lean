/-
  PatternChecks, PatternLeaves walked.
-/
import Derived.Test.YtbmcfodhjibooaaDoorPsB
import Derived.Test.YtbmcfodhjibooaaDoorPbA
import Derived.Test.YtbmcfodhjibooaaDoorPbB
import Derived.Lib.QuietBelow
import Derived.BigQuiet
namespace Go.Proofs.YtbmcfodhjibooaaDoor
open Go.RowKit Saw Go.Sort
set_option maxRecDepth 100000 in
set_option maxHeartbeats 2000000 in
theorem refPrCheckL_any (l : List Pr) (v : Value) (w : World) (hrd : RdPr w w.heap.size v l) (hnm : ∀ x ∈ l, x.name.length ≤ 9223372036854775807) :
    Calls Tryd.prog 11 #[v] w (IntB (checkPr l) w) := by
  obtain ⟨A, c, rfl, hc, hml⟩ := hrd.form
  obtain ⟨r, hr⟩ : ∃ r, checkPr l = r := ⟨_, rfl⟩
  rw [hr]
  unfold maxLen at hml
  by_cases h16 : 16 < l.length
  · have hrz : r = 4 := by rw [← hr, checkPr, if_pos h16]
    subst hrz
    clear hr hrd
    go_enter Tryd.func11, Tryd.ntmps11
    go_wp2_with fail
    go_ret
    exact ⟨rfl, Below.refl _ _⟩
  · rw [checkPr, if_neg h16] at hr
    have HR := Lib.hid hr
    have HRD := Lib.hid hrd
    have HNM := Lib.hid hnm
    clear hr hrd hnm
    go_enter Tryd.func11, Tryd.ntmps11
    go_wp2_with fail
    go_loopw [3] (fun i wr => ∃ k : Nat, k ≤ l.length ∧ i = .int .i64 k ∧ checkPrFrom l k = r ∧ Below w.heap.size w wr) (fun i _ => l.length - (intOf i).toNat)
    case atStart => exact ⟨0, by omega, rfl, HR.out, Below.refl _ _⟩
    case round =>
      obtain ⟨k, hk, rfl, hrk, hb⟩ := hrel
      have HB := Lib.hid hb
      have hsz := hb.size
      clear hb
      by_cases hlt : k < l.length
      · have hx : l[k]? = some l[k] := List.getElem?_eq_getElem hlt
        obtain ⟨x, hxe⟩ : ∃ x, l[k] = x := ⟨_, rfl⟩
        have hxn : x.name.length ≤ 9223372036854775807 := HNM.out x (by rw [← hxe]; exact List.getElem_mem hlt)
        rw [hxe] at hx
        rw [checkPr_at hx] at hrk
        obtain ⟨b, off, A1, c1, A2, c2, rfl, hbl, _, _, hri, hrp, q0, q1, q2, q3, q4, q5, q6⟩ := RdPr.at_ (HRD.out.below HB.out) hx
        have HST := Lib.hid hrk
        have HRI := Lib.hid hri
        have HRP := Lib.hid hrp
        clear hxe hx hrk hri hrp
        go_wp2_with fail
        refine (refIsName_any _ _ (by rw [size_str]; omega)).mono ?_
        rintro e w1 ⟨he, rfl⟩
        rw [bts_str] at he
        cases hnm : isNameP x.name
        · rw [hnm] at he
          subst he
          have hr6 : r = 6 := by rw [← HST.out, if_pos hnm]
          subst hr6
          clear hnm
          go_wp2_with fail
          go_ret
          exact ⟨rfl, HB.out.alloc hsz _⟩
        · rw [hnm] at he
          subst he
          have HNM1 := Lib.hid hnm
          clear hnm
          go_wp2_with fail
          obtain ⟨N, hN⟩ : ∃ N, wr.heap.size = N := ⟨_, rfl⟩
          obtain ⟨W1, hW1⟩ : ∃ W1, wr.alloc (.cells #[.string (str x.name), .int .i64 x.thick, .int .i64 x.width, .int .i64 x.allow, .int .i64 x.wane, .slice A1 x.lens.length c1, .slice A2 x.prices.length c2] 74) = W1 := ⟨_, rfl⟩
          have hz1 : W1.heap.size = N + 1 := by rw [← hW1, World.size_alloc, hN]
          have hG1 : W1.heap[N]? = some (.cells #[.string (str x.name), .int .i64 x.thick, .int .i64 x.width, .int .i64 x.allow, .int .i64 x.wane, .slice A1 x.lens.length c1, .slice A2 x.prices.length c2] 74 (0, 0)) := by rw [← hW1, ← hN]; exact heap_alloc_last wr _
          have HC1 := Lib.hid (show W1.cell? ⟨N, 0, none⟩ = some (.string (str x.name)) ∧ W1.cell? ⟨N, 1, none⟩ = some (.int .i64 x.thick) ∧ W1.cell? ⟨N, 2, none⟩ = some (.int .i64 x.width) ∧ W1.cell? ⟨N, 3, none⟩ = some (.int .i64 x.allow) ∧ W1.cell? ⟨N, 4, none⟩ = some (.int .i64 x.wane) ∧ W1.cell? ⟨N, 5, none⟩ = some (.slice A1 x.lens.length c1) ∧ W1.cell? ⟨N, 6, none⟩ = some (.slice A2 x.prices.length c2) from ⟨cell_of_box hG1 rfl, cell_of_box hG1 rfl, cell_of_box hG1 rfl, cell_of_box hG1 rfl, cell_of_box hG1 rfl, cell_of_box hG1 rfl, cell_of_box hG1 rfl⟩)
          have hb1 : Below w.heap.size w W1 := by rw [← hW1]; exact HB.out.alloc hsz _
          have hbr : Below wr.heap.size wr W1 := by rw [← hW1]; exact (Below.refl _ _).alloc (Nat.le_refl _) _
          have hNw : w.heap.size ≤ N := by omega
          obtain ⟨q, hq⟩ : ∃ q, (findPr (l.take k) x.name).isSome = q := ⟨_, rfl⟩
          have HQ := Lib.hid hq
          have HB1 := Lib.hid hb1
          have HRI1 := Lib.hid (HRI.out.below (hbr.mono hsz))
          have HRP1 := Lib.hid (HRP.out.below (hbr.mono hsz))
          rw [hW1, hN]
          clear hW1 hb1 hbr hG1 hq q0 q1 q2 q3 q4 q5 q6
          go_loopw [5] (fun i wj => ∃ j : Nat, j ≤ k ∧ i = .int .i64 j ∧ (findPr ((l.take k).drop j) x.name).isSome = q ∧ Below (N + 1) W1 wj) (fun i _ => k - (intOf i).toNat)
          case atStart => exact ⟨0, by omega, rfl, HQ.out, Below.refl _ _⟩
          case round =>
            obtain ⟨j, hj, rfl, hqj, hbj⟩ := hrel
            have hszj : N + 1 ≤ wr.heap.size := by have := hbj.size; omega
            have hbw : Below w.heap.size w wr := HB1.out.trans (hbj.mono (by omega))
            have HBJ := Lib.hid hbj
            have HBW := Lib.hid hbw
            by_cases hjk : j < k
            · have hy : l[j]? = some l[j] := List.getElem?_eq_getElem (by omega)
              obtain ⟨y, hye⟩ : ∃ y, l[j] = y := ⟨_, rfl⟩
              rw [hye] at hy
              have hyt : (l.take k)[j]? = some y := by rw [List.getElem?_take, if_pos hjk]; exact hy
              obtain ⟨b', off', B1, d1, B2, d2, hA, _, _, _, _, _, y0, _⟩ := RdPr.at_ (HRD.out.below hbw) hy
              injection hA with hA
              injection hA with e1 e2
              subst e1 e2
              have hn := str_eqb y.name x.name
              have HF := Lib.hid (findPr_step hyt hqj)
              have p0 : wr.cell? ⟨N, 0, none⟩ = some (.string (str x.name)) := (hbj.cell (p := ⟨N, 0, none⟩) (by show N < _; omega)).trans HC1.out.1
              have hj0 : (0 : Int) ≤ (j : Int) := by omega
              have hj1 : (j : Int) < (l.length : Int) := by omega
              have hbj1 : b < wr.heap.size := by omega
              have hbj2 : N < wr.heap.size := by omega
              clear hye hy hyt hqj hbw hbj
              cases he : (y.name == x.name)
              · rw [he] at hn
                have HN := Lib.hid (HF.out.2 he)
                clear he
                go_wp2_with fail
                go_quiet (fail)
                go_wp2_with fail
                exact ⟨⟨j + 1, by omega, by go_num, HN.out, below_drewNn HBJ.out _⟩, by simp [intOf]; omega⟩
              · rw [he] at hn
                have hqt := HF.out.1 he
                have hr7 : r = 7 := by rw [← HST.out, if_neg (by rw [HNM1.out]; decide), if_pos (by rw [HQ.out]; exact hqt)]
                subst hr7
                clear he hqt
                go_wp2_with fail
                go_quiet (fail)
                go_wp2_with fail
                go_ret
                exact ⟨rfl, below_drewNn HBW.out _⟩
            · have hqf : q = false := by
                rw [List.drop_eq_nil_of_le (by rw [List.length_take]; omega)] at hqj
                exact hqj.symm
              have HST1 := Lib.hid (show (if checkNumP x ≠ 0 then checkNumP x else checkPrFrom l (k + 1)) = r by have h9 := HST.out; rw [if_neg (by rw [HNM1.out]; decide), if_neg (by rw [HQ.out, hqf]; decide)] at h9; exact h9)
              have HRIJ := Lib.hid (HRI1.out.below (hbj.mono (by omega)))
              have HRPJ := Lib.hid (HRP1.out.below (hbj.mono (by omega)))
              have p0 : wr.cell? ⟨N, 0, none⟩ = some (.string (str x.name)) := (hbj.cell (p := ⟨N, 0, none⟩) (by show N < _; omega)).trans HC1.out.1
              have p1 : wr.cell? ⟨N, 1, none⟩ = some (.int .i64 x.thick) := (hbj.cell (p := ⟨N, 1, none⟩) (by show N < _; omega)).trans HC1.out.2.1
              have p2 : wr.cell? ⟨N, 2, none⟩ = some (.int .i64 x.width) := (hbj.cell (p := ⟨N, 2, none⟩) (by show N < _; omega)).trans HC1.out.2.2.1
              have p3 : wr.cell? ⟨N, 3, none⟩ = some (.int .i64 x.allow) := (hbj.cell (p := ⟨N, 3, none⟩) (by show N < _; omega)).trans HC1.out.2.2.2.1
              have p4 : wr.cell? ⟨N, 4, none⟩ = some (.int .i64 x.wane) := (hbj.cell (p := ⟨N, 4, none⟩) (by show N < _; omega)).trans HC1.out.2.2.2.2.1
              have p5 : wr.cell? ⟨N, 5, none⟩ = some (.slice A1 x.lens.length c1) := (hbj.cell (p := ⟨N, 5, none⟩) (by show N < _; omega)).trans HC1.out.2.2.2.2.2.1
              have p6 : wr.cell? ⟨N, 6, none⟩ = some (.slice A2 x.prices.length c2) := (hbj.cell (p := ⟨N, 6, none⟩) (by show N < _; omega)).trans HC1.out.2.2.2.2.2.2
              clear hqf hqj hbj hbw HST
              by_cases g1 : x.thick < 5
              · have hcz : checkNumP x = 9 := by rw [checkNumP, if_pos (by omega)]
                have hrz : r = 9 := by rw [← HST1.out, hcz]; rfl
                subst hrz
                clear hcz HST1
                go_wp2_with fail
                go_ret
                exact ⟨rfl, HBW.out⟩
              · have k1 := Int.not_lt.1 g1
                clear g1
                by_cases g2 : 300 < x.thick
                · have hcz : checkNumP x = 9 := by rw [checkNumP, if_pos (by omega)]
                  have hrz : r = 9 := by rw [← HST1.out, hcz]; rfl
                  subst hrz
                  clear hcz HST1
                  go_wp2_with fail
                  go_ret
                  exact ⟨rfl, HBW.out⟩
                · have k2 := Int.not_lt.1 g2
                  clear g2
                  by_cases g3 : x.width < x.thick
                  · have hcz : checkNumP x = 9 := by rw [checkNumP, if_pos (by omega)]
                    have hrz : r = 9 := by rw [← HST1.out, hcz]; rfl
                    subst hrz
                    clear hcz HST1
                    go_wp2_with fail
                    go_ret
                    exact ⟨rfl, HBW.out⟩
                  · have k3 := Int.not_lt.1 g3
                    clear g3
                    by_cases g4 : 600 < x.width
                    · have hcz : checkNumP x = 9 := by rw [checkNumP, if_pos (by omega)]
                      have hrz : r = 9 := by rw [← HST1.out, hcz]; rfl
                      subst hrz
                      clear hcz HST1
                      go_wp2_with fail
                      go_ret
                      exact ⟨rfl, HBW.out⟩
                    · have k4 := Int.not_lt.1 g4
                      clear g4
                      by_cases g5 : x.allow < 0
                      · have hcz : checkNumP x = 9 := by rw [checkNumP, if_neg (by omega), if_pos (by omega)]
                        have hrz : r = 9 := by rw [← HST1.out, hcz]; rfl
                        subst hrz
                        clear hcz HST1
                        go_wp2_with fail
                        go_ret
                        exact ⟨rfl, HBW.out⟩
                      · have k5 := Int.not_lt.1 g5
                        clear g5
                        by_cases g6 : 200 < x.allow
                        · have hcz : checkNumP x = 9 := by rw [checkNumP, if_neg (by omega), if_pos (by omega)]
                          have hrz : r = 9 := by rw [← HST1.out, hcz]; rfl
                          subst hrz
                          clear hcz HST1
                          go_wp2_with fail
                          go_ret
                          exact ⟨rfl, HBW.out⟩
                        · have k6 := Int.not_lt.1 g6
                          clear g6
                          by_cases g7 : x.wane < 0
                          · have hcz : checkNumP x = 9 := by rw [checkNumP, if_neg (by omega), if_pos (by omega)]
                            have hrz : r = 9 := by rw [← HST1.out, hcz]; rfl
                            subst hrz
                            clear hcz HST1
                            go_wp2_with fail
                            go_ret
                            exact ⟨rfl, HBW.out⟩
                          · have k7 := Int.not_lt.1 g7
                            clear g7
                            by_cases g8 : 1000 < x.wane
                            · have hcz : checkNumP x = 9 := by rw [checkNumP, if_neg (by omega), if_pos (by omega)]
                              have hrz : r = 9 := by rw [← HST1.out, hcz]; rfl
                              subst hrz
                              clear hcz HST1
                              go_wp2_with fail
                              go_ret
                              exact ⟨rfl, HBW.out⟩
                            · have k8 := Int.not_lt.1 g8
                              clear g8
                              obtain ⟨gt, gw, hg⟩ : ∃ gt gw, greenP x = (gt, gw) := ⟨_, _, rfl⟩
                              have HGR := Lib.hid hg
                              have hcn : checkNumP x = if 600 < gw then 9 else listsP x := by rw [checkNumP, if_neg (by omega), if_neg (by omega), hg]
                              have HCN := Lib.hid hcn
                              clear hg hcn
                              go_wp2_with fail
                              refine (refGreen_any x A1 A2 _ _ _ _ _).mono ?_
                              rintro e w2 ⟨he, hb2⟩
                              rw [HGR.out] at he
                              subst he
                              have HB2 := Lib.hid (HBW.out.trans (hb2.mono HBW.out.size))
                              have r0 : w2.cell? ⟨N, 0, none⟩ = some (.string (str x.name)) := (hb2.cell (p := ⟨N, 0, none⟩) (by show N < _; omega)).trans p0
                              have r1 : w2.cell? ⟨N, 1, none⟩ = some (.int .i64 x.thick) := (hb2.cell (p := ⟨N, 1, none⟩) (by show N < _; omega)).trans p1
                              have r2 : w2.cell? ⟨N, 2, none⟩ = some (.int .i64 x.width) := (hb2.cell (p := ⟨N, 2, none⟩) (by show N < _; omega)).trans p2
                              have r3 : w2.cell? ⟨N, 3, none⟩ = some (.int .i64 x.allow) := (hb2.cell (p := ⟨N, 3, none⟩) (by show N < _; omega)).trans p3
                              have r4 : w2.cell? ⟨N, 4, none⟩ = some (.int .i64 x.wane) := (hb2.cell (p := ⟨N, 4, none⟩) (by show N < _; omega)).trans p4
                              have r5 : w2.cell? ⟨N, 5, none⟩ = some (.slice A1 x.lens.length c1) := (hb2.cell (p := ⟨N, 5, none⟩) (by show N < _; omega)).trans p5
                              have r6 : w2.cell? ⟨N, 6, none⟩ = some (.slice A2 x.prices.length c2) := (hb2.cell (p := ⟨N, 6, none⟩) (by show N < _; omega)).trans p6
                              have HRI2 := Lib.hid (HRIJ.out.below (hb2.mono HBW.out.size))
                              have HRP2 := Lib.hid (HRPJ.out.below (hb2.mono HBW.out.size))
                              have hsz2 : w.heap.size ≤ w2.heap.size := HB2.out.size
                              clear hb2 p0 p1 p2 p3 p4 p5 p6
                              by_cases g9 : 600 < gw
                              · have hrz : r = 9 := by rw [← HST1.out, HCN.out, if_pos g9]; rfl
                                subst hrz
                                clear HST1 HCN HGR
                                go_wp2_with fail
                                go_ret
                                exact ⟨rfl, HB2.out⟩
                              · have k9 := Int.not_lt.1 g9
                                obtain ⟨e8, he8⟩ : ∃ e8, listsP x = e8 := ⟨_, rfl⟩
                                have HST2 := Lib.hid (show (if e8 ≠ 0 then e8 else checkPrFrom l (k + 1)) = r by have h9 := HST1.out; rw [HCN.out, if_neg g9, he8] at h9; exact h9)
                                have HE8 := Lib.hid he8
                                clear g9 he8 HST1 HCN HGR
                                go_wp2_with fail
                                refine (checkLengths_any x A1 A2 c1 c2 _ ((show RdI w2 w.heap.size _ x.lens from HRI2.out).more hsz2) ((show RdI w2 w.heap.size _ x.prices from HRP2.out).more hsz2)).mono ?_
                                rintro e w7 ⟨he, hb7⟩
                                rw [HE8.out] at he
                                subst he
                                have HB7 := Lib.hid (HB2.out.trans (hb7.mono hsz2))
                                clear hb7
                                by_cases hz : e8 = 0
                                · subst hz
                                  have HN := Lib.hid (show checkPrFrom l (k + 1) = r by have h9 := HST2.out; rw [if_neg (by simp)] at h9; exact h9)
                                  go_wp2_with fail
                                  exact ⟨⟨k + 1, by omega, by go_num, HN.out, HB7.out⟩, by simp [intOf]; omega⟩
                                · have hrz : e8 = r := by have h9 := HST2.out; rw [if_pos hz] at h9; exact h9
                                  subst hrz
                                  have hzb : (e8 != 0) = true := by rw [bne_iff_ne]; exact hz
                                  clear hz
                                  go_wp2_with fail
                                  go_ret
                                  exact ⟨rfl, HB7.out⟩
      · have hr0 : r = 0 := by rw [← hrk, checkPr_end hlt]
        subst hr0
        clear hrk HR
        go_wp2_with fail
        go_ret
        exact ⟨rfl, HB.out⟩

theorem pat_start (w : World) (r : Rc) (nv : Value) : PatAt (w.alloc (.cells #[.int .i64 r.xa, .int .i64 r.xb, .int .i64 r.ya, .int .i64 r.yb, nv] 28)) w.heap.size r nv := heap_alloc_last w _

set_option maxRecDepth 100000 in
set_option maxHeartbeats 4000000 in
theorem patternChecks_walk (r : Rc) (ns : List Nd) (A : Option Addr) (c : Nat) (l : List Pr) (A2 : Option Addr) (c2 : Nat) (kerf : Int) (w : World) (hns : RdNd w w.heap.size (.slice A ns.length c) ns) (hl : RdPr w w.heap.size (.slice A2 l.length c2) l ∧ ∀ x ∈ l, x.name.length ≤ maxLen) (_hk : I64 kerf) (hv : VarsX w) :
    Calls Tryd.prog 3 #[.agg #[.int .i64 r.xa, .int .i64 r.xb, .int .i64 r.ya, .int .i64 r.yb, .slice A ns.length c], .slice A2 l.length c2, .int .i64 kerf] w (LawX w) := by
  obtain ⟨_, _, _, _, hml⟩ := hns.form
  unfold maxLen at hml
  have HV := Lib.hid hv
  obtain ⟨W0, hW0⟩ : ∃ W0, w.alloc (.cells #[.int .i64 r.xa, .int .i64 r.xb, .int .i64 r.ya, .int .i64 r.yb, .slice A ns.length c] 28) = W0 := ⟨_, rfl⟩
  have hb0 : Below w.heap.size w W0 := by rw [← hW0]; exact bel_alloc (Below.refl _ _)
  have hp0 : PatAt W0 w.heap.size r (.slice A ns.length c) := by rw [← hW0]; exact pat_start w r _
  have HB0 := Lib.hid hb0
  have HP0 := Lib.hid hp0
  have HNS := Lib.hid (hns.next hb0)
  obtain ⟨hl1, hl2⟩ := hl
  obtain ⟨_, _, _, _, hml2⟩ := hl1.form
  unfold maxLen at hml2
  have HPR := Lib.hid (hl1.next hb0)
  have HNM := Lib.hid (show ∀ x ∈ l, x.name.length ≤ 9223372036854775807 from fun x hx => by have := hl2 x hx; unfold maxLen at this; omega)
  have HW0 := Lib.hid hW0
  obtain ⟨p0, p1, p2, p3, p4⟩ := cells5 hp0
  clear hb0 hp0 hns hl1 hl2 hv hW0
  go_enter Tryd.func3, Tryd.ntmps3
  go_upto_region 1 with fail
  rw [HW0.out]
  by_cases h1 : 300 < ns.length
  · have g1 : decide (300 < (ns.length : Int)) = true := by rw [decide_eq_true_eq]; omega
    go_wp2_with fail
    refine (awake_any W0 (HV.out.next HB0.out)).mono ?_
    rintro e w2 ⟨he, hb2⟩
    subst he
    have HB2 := Lib.hid (bel_call HB0.out hb2)
    clear hb2
    go_wp2_with fail
    go_ret
    exact ⟨rfl, HB2.out⟩
  by_cases h2 : 16 < l.length
  · have g1 : decide (300 < (ns.length : Int)) = false := by rw [decide_eq_false_iff_not]; omega
    have g2 : decide (16 < (l.length : Int)) = true := by rw [decide_eq_true_eq]; omega
    go_wp2_with fail
    refine (awake_any W0 (HV.out.next HB0.out)).mono ?_
    rintro e w2 ⟨he, hb2⟩
    subst he
    have HB2 := Lib.hid (bel_call HB0.out hb2)
    clear hb2
    go_wp2_with fail
    go_ret
    exact ⟨rfl, HB2.out⟩
  have g1 : decide (300 < (ns.length : Int)) = false := by rw [decide_eq_false_iff_not]; omega
  have g2 : decide (16 < (l.length : Int)) = false := by rw [decide_eq_false_iff_not]; omega
  go_wp2_with fail
  refine (refPrCheckL_any l _ W0 HPR.out HNM.out).mono ?_
  rintro e w1 ⟨he, hb1⟩
  obtain ⟨q, hq⟩ : ∃ q, checkPr l = q := ⟨_, rfl⟩
  rw [hq] at he
  subst he
  have HB1 := Lib.hid (bel_call HB0.out hb1)
  have HNS1 := Lib.hid (HNS.out.next hb1)
  have HPR1 := Lib.hid (HPR.out.next hb1)
  have HP1 := Lib.hid ((hb1.block w.heap.size (Array.getElem?_eq_some_iff.1 HP0.out).1).trans HP0.out)
  clear hb1 hq p0 p1 p2 p3 p4
  by_cases h3 : q = 0
  · subst h3
    go_wp2_with fail
    obtain ⟨p0, p1, p2, p3, p4⟩ := cells5 HP1.out
    have y0 := cell_regrown p0
    have y1 := cell_regrown p1
    have y2 := cell_regrown p2
    have y3 := cell_regrown p3
    have y4 := cell_regrown p4
    obtain ⟨k, hk⟩ : ∃ k, checkPt r ns kerf (boardP l) = k := ⟨_, rfl⟩
    have D1 := Lib.hid (fun d os => (patCheck_any r ns (.slice A ns.length c) l (.slice A2 l.length c2) kerf (grow (redrawn w1 d) os) (HNS1.out.next (below_regrown w1 d os)) (HPR1.out.next (below_regrown w1 d os))).mono (fun e w' h => (show e = .returned (.int .i64 k) ∧ Below (grow (redrawn w1 d) os).heap.size (grow (redrawn w1 d) os) w' from hk ▸ h)))
    have D2 := Lib.hid (fun d os => (rpatCheck_any r ns (.slice A ns.length c) (.slice A2 l.length c2) l kerf (grow (redrawn w1 d) os) (HNS1.out.next (below_regrown w1 d os)) (HPR1.out.next (below_regrown w1 d os))).mono (fun e w' h => (show e = .returned (.int .i64 k) ∧ Below (grow (redrawn w1 d) os).heap.size (grow (redrawn w1 d) os) w' from hk ▸ h)))
    have D3 := Lib.hid (fun d os => (awake_any (grow (redrawn w1 d) os) ((HV.out.next HB1.out).next (below_regrown w1 d os))).mono (fun e w' h => (show e = .returned (.bool true) ∧ Below (grow (redrawn w1 d) os).heap.size (grow (redrawn w1 d) os) w' from h)))
    clear p0 p1 p2 p3 p4 hk
    refine wp_region_quiet_below (by kernel_rfl) (by kernel_rfl) ?_
    repeat (first
      | (open Go.BigFrame in go_big_quiet_step ((first | (with_reducible exact Calls.regrown_of (D1.out _ _)) | (with_reducible exact Calls.regrown_of (D2.out _ _)) | (with_reducible exact Calls.regrown_of (D3.out _ _)))))
      | (quiet_step ((first | (with_reducible exact Calls.regrown_of (D1.out _ _)) | (with_reducible exact Calls.regrown_of (D2.out _ _)) | (with_reducible exact Calls.regrown_of (D3.out _ _))))))
    refine wpQuiet_nil ?_
    rintro w6 ⟨p6, hw6⟩
    have HB6 := Lib.hid (bel_call HB1.out (show Below w1.heap.size w1 w6 by rw [hw6]; exact below_regrown _ _ _))
    clear y0 y1 y2 y3 y4 hw6
    go_wp2_with fail
    go_ret
    exact ⟨rfl, HB6.out⟩
  · have hqb : (q != 0) = true := by rw [bne_iff_ne]; exact h3
    go_wp2_with fail
    refine (awake_any w1 (HV.out.next HB1.out)).mono ?_
    rintro e w2 ⟨he, hb2⟩
    subst he
    have HB2 := Lib.hid (bel_call HB1.out hb2)
    clear hb2
    go_wp2_with fail
    go_ret
    exact ⟨rfl, HB2.out⟩

set_option maxRecDepth 100000 in
set_option maxHeartbeats 4000000 in
theorem patternLeaves_walk (r : Rc) (ns : List Nd) (A : Option Addr) (c : Nat) (kerf : Int) (w : World) (hns : RdNd w w.heap.size (.slice A ns.length c) ns) (_hk : I64 kerf) (hv : VarsX w) :
    Calls Tryd.prog 4 #[.agg #[.int .i64 r.xa, .int .i64 r.xb, .int .i64 r.ya, .int .i64 r.yb, .slice A ns.length c], .int .i64 kerf] w (LawX w) := by
  obtain ⟨_, _, _, _, hml⟩ := hns.form
  unfold maxLen at hml
  have HV := Lib.hid hv
  obtain ⟨W0, hW0⟩ : ∃ W0, w.alloc (.cells #[.int .i64 r.xa, .int .i64 r.xb, .int .i64 r.ya, .int .i64 r.yb, .slice A ns.length c] 28) = W0 := ⟨_, rfl⟩
  have hb0 : Below w.heap.size w W0 := by rw [← hW0]; exact bel_alloc (Below.refl _ _)
  have hp0 : PatAt W0 w.heap.size r (.slice A ns.length c) := by rw [← hW0]; exact pat_start w r _
  have HB0 := Lib.hid hb0
  have HP0 := Lib.hid hp0
  have HNS := Lib.hid (hns.next hb0)
  have HW0 := Lib.hid hW0
  obtain ⟨p0, p1, p2, p3, p4⟩ := cells5 hp0
  clear hb0 hp0 hns hv hW0
  obtain ⟨L, hL⟩ : ∃ L, leavesP r ns kerf = L := ⟨_, rfl⟩
  obtain ⟨C, hC⟩ : ∃ C, cutsP r ns kerf = C := ⟨_, rfl⟩
  obtain ⟨D, hD⟩ : ∃ D, depthP ns = D := ⟨_, rfl⟩
  have HL := Lib.hid hL
  have HC := Lib.hid hC
  have HD := Lib.hid hD
  clear hL hC hD
  go_enter Tryd.func4, Tryd.ntmps4
  go_upto_region 1 with fail
  rw [HW0.out]
  by_cases h1 : 300 < ns.length
  · have g1 : decide (300 < (ns.length : Int)) = true := by rw [decide_eq_true_eq]; omega
    go_wp2_with fail
    refine (awake_any W0 (HV.out.next HB0.out)).mono ?_
    rintro e w2 ⟨he, hb2⟩
    subst he
    have HB2 := Lib.hid (bel_call HB0.out hb2)
    clear hb2
    go_wp2_with fail
    go_ret
    exact ⟨rfl, HB2.out⟩
  have g1 : decide (300 < (ns.length : Int)) = false := by rw [decide_eq_false_iff_not]; omega
  go_wp2_with fail
  refine (leaves_any r ns _ kerf W0 HNS.out).mono ?_
  rintro e w1 ⟨v1, he, hrd, hb⟩
  rw [HL.out] at he hrd
  subst he
  have HR1 := Lib.hid hrd
  have HB1 := Lib.hid (bel_call HB0.out hb)
  have HNS1 := Lib.hid (HNS.out.next hb)
  have HP1 := Lib.hid ((hb.block w.heap.size (Array.getElem?_eq_some_iff.1 HP0.out).1).trans HP0.out)
  clear hb hrd p0 p1 p2 p3 p4
  obtain ⟨p0, p1, p2, p3, p4⟩ := cells5 HP1.out
  go_wp2_with fail
  refine (rleaves_any r ns _ kerf w1 HNS1.out).mono ?_
  rintro e w2 ⟨v2, he, hrd, hb⟩
  rw [HL.out] at he hrd
  subst he
  have HR2 := Lib.hid hrd
  have HR12 := Lib.hid (Rd.next HR1.out hb)
  have HB2 := Lib.hid (bel_call HB1.out hb)
  have HNS2 := Lib.hid (HNS1.out.next hb)
  have HP2 := Lib.hid ((hb.block w.heap.size (Array.getElem?_eq_some_iff.1 HP1.out).1).trans HP1.out)
  clear hb hrd p0 p1 p2 p3 p4
  obtain ⟨p0, p1, p2, p3, p4⟩ := cells5 HP2.out
  go_wp2_with fail
  refine (cuts_any r ns _ kerf w2 HNS2.out).mono ?_
  rintro e w3 ⟨v3, he, hrd, hb⟩
  rw [HC.out] at he hrd
  subst he
  have HR3 := Lib.hid hrd
  have HR13 := Lib.hid (Rd.next HR12.out hb)
  have HR23 := Lib.hid (Rd.next HR2.out hb)
  have HB3 := Lib.hid (bel_call HB2.out hb)
  have HNS3 := Lib.hid (HNS2.out.next hb)
  have HP3 := Lib.hid ((hb.block w.heap.size (Array.getElem?_eq_some_iff.1 HP2.out).1).trans HP2.out)
  clear hb hrd p0 p1 p2 p3 p4
  obtain ⟨p0, p1, p2, p3, p4⟩ := cells5 HP3.out
  go_wp2_with fail
  refine (rcuts_any r ns _ kerf w3 HNS3.out).mono ?_
  rintro e w4 ⟨v4, he, hrd, hb⟩
  rw [HC.out] at he hrd
  subst he
  have HR4 := Lib.hid hrd
  have HR14 := Lib.hid (Rd.next HR13.out hb)
  have HR24 := Lib.hid (Rd.next HR23.out hb)
  have HR34 := Lib.hid (Rd.next HR3.out hb)
  have HB4 := Lib.hid (bel_call HB3.out hb)
  have HNS4 := Lib.hid (HNS3.out.next hb)
  have HP4 := Lib.hid ((hb.block w.heap.size (Array.getElem?_eq_some_iff.1 HP3.out).1).trans HP3.out)
  clear hb hrd p0 p1 p2 p3 p4
  obtain ⟨p0, p1, p2, p3, p4⟩ := cells5 HP4.out
  obtain ⟨A1, c1, rfl, _, _⟩ := Rd.form_ HR14.out
  obtain ⟨A2, c2, rfl, _, _⟩ := Rd.form_ HR24.out
  obtain ⟨A3, c3, rfl, _, _⟩ := Rd.form_ HR34.out
  obtain ⟨A4, c4, rfl, _, _⟩ := Rd.form_ HR4.out
  go_wp2_with fail
  have y0 := cell_regrown p0
  have y1 := cell_regrown p1
  have y2 := cell_regrown p2
  have y3 := cell_regrown p3
  have y4 := cell_regrown p4
  have D1 := Lib.hid (fun d os => (sameLeaves_any L.1 L.1 _ _ (grow (redrawn w4 d) os) (Rd.next HR14.out (below_regrown w4 d os)) (Rd.next HR24.out (below_regrown w4 d os))).mono (fun e w' h => (show e = .returned (.bool true) ∧ Below (grow (redrawn w4 d) os).heap.size (grow (redrawn w4 d) os) w' from (decide_eq_true (p := L.1 = L.1) rfl) ▸ h)))
  have D2 := Lib.hid (fun d os => (sameRects_any C.1 C.1 _ _ (grow (redrawn w4 d) os) (Rd.next HR34.out (below_regrown w4 d os)) (Rd.next HR4.out (below_regrown w4 d os))).mono (fun e w' h => (show e = .returned (.bool true) ∧ Below (grow (redrawn w4 d) os).heap.size (grow (redrawn w4 d) os) w' from (decide_eq_true (p := C.1 = C.1) rfl) ▸ h)))
  have D3 := Lib.hid (fun d os => (depth_any r ns (.slice A ns.length c) (grow (redrawn w4 d) os) (HNS4.out.next (below_regrown w4 d os))).mono (fun e w' h => (show e = .returned (.int .i64 D) ∧ Below (grow (redrawn w4 d) os).heap.size (grow (redrawn w4 d) os) w' from HD.out ▸ h)))
  have D4 := Lib.hid (fun d os => (rDepth_any r ns (.slice A ns.length c) (grow (redrawn w4 d) os) (HNS4.out.next (below_regrown w4 d os)) (by omega)).mono (fun e w' h => (show e = .returned (.int .i64 D) ∧ Below (grow (redrawn w4 d) os).heap.size (grow (redrawn w4 d) os) w' from HD.out ▸ h)))
  have D5 := Lib.hid (fun d os => (awake_any (grow (redrawn w4 d) os) ((HV.out.next HB4.out).next (below_regrown w4 d os))).mono (fun e w' h => (show e = .returned (.bool true) ∧ Below (grow (redrawn w4 d) os).heap.size (grow (redrawn w4 d) os) w' from h)))
  clear p0 p1 p2 p3 p4
  refine wp_region_quiet_below (by kernel_rfl) (by kernel_rfl) ?_
  repeat (first
    | (open Go.BigFrame in go_big_quiet_step ((first | (with_reducible exact Calls.regrown_of (D1.out _ _)) | (with_reducible exact Calls.regrown_of (D2.out _ _)) | (with_reducible exact Calls.regrown_of (D3.out _ _)) | (with_reducible exact Calls.regrown_of (D4.out _ _)) | (with_reducible exact Calls.regrown_of (D5.out _ _)))))
    | (quiet_step ((first | (with_reducible exact Calls.regrown_of (D1.out _ _)) | (with_reducible exact Calls.regrown_of (D2.out _ _)) | (with_reducible exact Calls.regrown_of (D3.out _ _)) | (with_reducible exact Calls.regrown_of (D4.out _ _)) | (with_reducible exact Calls.regrown_of (D5.out _ _))))))
  refine wpQuiet_nil ?_
  rintro w6 ⟨p6, hw6⟩
  have HB6 := Lib.hid (bel_call HB4.out (show Below w4.heap.size w4 w6 by rw [hw6]; exact below_regrown _ _ _))
  clear y0 y1 y2 y3 y4 hw6
  go_wp2_with fail
  go_ret
  exact ⟨rfl, HB6.out⟩
end Go.Proofs.YtbmcfodhjibooaaDoor
