/-
  The contracts of sawmillref19's Price, Check.
-/
import Derived.Test.YtokgonpeolppnaaDoorPrE
namespace Saw
theorem priceL_step {ls ps : List Int} {k : Nat} {m n : Int} {r : Option Int} (hm : ls[k]? = some m) (h : priceL (ls.drop k) (ps.drop k) n = r) :
    (m = n → r = ps[k]?) ∧ (m ≠ n → priceL (ls.drop (k + 1)) (ps.drop (k + 1)) n = r) := by
  obtain ⟨hk, he⟩ := List.getElem?_eq_some_iff.1 hm
  rw [List.drop_eq_getElem_cons hk, he, priceL, List.head?_drop, List.tail_drop] at h
  exact ⟨fun e => by rw [if_pos e] at h; exact h.symm, fun e => by rw [if_neg e] at h; exact h⟩
theorem findPr_step {m : List Pr} {j : Nat} {x : Pr} {nm : List UInt8} {q : Bool} (hx : m[j]? = some x) (h : (findPr (m.drop j) nm).isSome = q) :
    ((x.name == nm) = true → q = true) ∧ ((x.name == nm) = false → (findPr (m.drop (j + 1)) nm).isSome = q) := by
  obtain ⟨hk, hn⟩ := List.getElem?_eq_some_iff.1 hx
  rw [List.drop_eq_getElem_cons hk, hn, findPr, List.findIdx?_cons] at h
  refine ⟨fun he => ?_, fun he => ?_⟩
  · rw [if_pos he] at h
    exact h.symm
  · rw [if_neg (by rw [he]; decide), Option.isSome_map] at h
    exact h
end Saw
namespace Go.Proofs.YtokgonpeolppnaaDoor
open Go.RowKit Saw Go.Sort

def PricePost (r : Option Int) (w : World) (e : Ending) (w' : World) : Prop := e = .returned (.tuple #[.int .i64 (r.getD 0), .bool r.isSome]) ∧ Below w.heap.size w w'

set_option maxRecDepth 100000 in
set_option maxHeartbeats 400000 in
theorem refPrice_any (x : Pr) (A1 A2 : Option Addr) (c1 c2 : Nat) (n : Int) (w : World) (h1 : RdI w w.heap.size (.slice A1 x.lens.length c1) x.lens) (h2 : RdI w w.heap.size (.slice A2 x.prices.length c2) x.prices) :
    Calls Tryd.prog 19 #[.agg #[.string (str x.name), .int .i64 x.thick, .int .i64 x.width, .int .i64 x.allow, .int .i64 x.wane, .slice A1 x.lens.length c1, .slice A2 x.prices.length c2], .int .i64 n] w (PricePost (priceP x n) w) := by
  obtain ⟨r, hr⟩ : ∃ r, priceP x n = r := ⟨_, rfl⟩
  rw [hr]
  obtain ⟨_, _, _, _, hl1⟩ := h1.form
  obtain ⟨_, _, _, _, hl2⟩ := h2.form
  unfold maxLen at hl1 hl2
  have HR := Lib.hid hr
  have hb0 : Below w.heap.size w (w.alloc (.cells #[.string (str x.name), .int .i64 x.thick, .int .i64 x.width, .int .i64 x.allow, .int .i64 x.wane, .slice A1 x.lens.length c1, .slice A2 x.prices.length c2] 29)) := (Below.refl _ _).alloc (Nat.le_refl _) _
  have HL1 := Lib.hid (h1.below hb0)
  have HP1 := Lib.hid (h2.below hb0)
  have HB := Lib.hid hb0
  clear hr h1 h2 hb0
  go_enter Tryd.func19, Tryd.ntmps19
  go_wp2_with fail
  go_loop [6] (fun i => ∃ k : Nat, k ≤ x.lens.length ∧ i = .int .i64 k ∧ priceL (x.lens.drop k) (x.prices.drop k) n = r) (fun i => x.lens.length - (intOf i).toNat)
  case atStart => exact ⟨0, by omega, rfl, HR.out⟩
  case round =>
    obtain ⟨k, hk, rfl, hrk⟩ := hrel
    by_cases hlt : k < x.lens.length
    · have hx : x.lens[k]? = some x.lens[k] := List.getElem?_eq_getElem hlt
      obtain ⟨m, hm⟩ : ∃ m, x.lens[k] = m := ⟨_, rfl⟩
      rw [hm] at hx
      obtain ⟨b, off, rfl, hbl, d0⟩ := RdI.at_ HL1.out hx
      have HST := Lib.hid (priceL_step hx hrk)
      clear hx hm hrk
      by_cases hmn : m = n
      · subst hmn
        have hrz := HST.out.1 rfl
        by_cases hpk : k < x.prices.length
        · have hp : x.prices[k]? = some x.prices[k] := List.getElem?_eq_getElem hpk
          obtain ⟨p, hpe⟩ : ∃ p, x.prices[k] = p := ⟨_, rfl⟩
          rw [hpe] at hp
          rw [hp] at hrz
          subst hrz
          obtain ⟨b', off', rfl, hbl', d1⟩ := RdI.at_ HP1.out hp
          clear hp hpe HR
          go_wp2_with fail
          go_ret2
          exact ⟨rfl, HB.out⟩
        · rw [List.getElem?_eq_none (by omega)] at hrz
          subst hrz
          clear HR
          go_wp2_with fail
          go_ret2
          exact ⟨rfl, HB.out⟩
      · have HN := Lib.hid (HST.out.2 hmn)
        have hmb : (m == n) = false := by rw [beq_eq_false_iff_ne]; exact hmn
        clear hmn
        go_wp2_with fail
        exact ⟨⟨k + 1, by omega, by go_num, HN.out⟩, by simp [intOf]; omega⟩
    · have hrn : r = none := by
        rw [List.drop_eq_nil_of_le (by omega)] at hrk
        exact hrk.symm
      subst hrn
      clear hrk HR
      go_wp2_with fail
      go_ret2
      exact ⟨rfl, HB.out⟩


set_option maxRecDepth 100000 in
set_option maxHeartbeats 2000000 in
theorem refPrCheck_any (l : List Pr) (v : Value) (w : World) (hrd : RdPr w w.heap.size v l) (hnm : ∀ x ∈ l, x.name.length ≤ 1000000) :
    Calls Tryd.prog 14 #[v] w (IntB (checkPr l) w) := by
  obtain ⟨A, c, rfl, hc, hml⟩ := hrd.form
  obtain ⟨r, hr⟩ : ∃ r, checkPr l = r := ⟨_, rfl⟩
  rw [hr]
  unfold maxLen at hml
  by_cases h16 : 16 < l.length
  · have hrz : r = 4 := by rw [← hr, checkPr, if_pos h16]
    subst hrz
    clear hr hrd
    go_enter Tryd.func14, Tryd.ntmps14
    go_wp2_with fail
    go_ret
    exact ⟨rfl, Below.refl _ _⟩
  · rw [checkPr, if_neg h16] at hr
    have HR := Lib.hid hr
    have HRD := Lib.hid hrd
    have HNM := Lib.hid hnm
    clear hr hrd hnm
    go_enter Tryd.func14, Tryd.ntmps14
    go_wp2_with fail
    go_loopw [3] (fun i wr => ∃ k : Nat, k ≤ l.length ∧ i = .int .i64 k ∧ checkPrFrom l k = r ∧ Below w.heap.size w wr) (fun i _ => l.length - (intOf i).toNat)
    case atStart => exact ⟨0, by omega, rfl, HR.out, Below.refl _ _⟩
    case round =>
      obtain ⟨k, hk, rfl, hrk, hb⟩ := hrel
      have HB := Lib.hid hb
      have hsz := hb.size
      clear hb
      by_cases hlt : k < l.length
      · have hx : l[k]? = some l[k] := List.getElem?_eq_getElem hlt
        obtain ⟨x, hxe⟩ : ∃ x, l[k] = x := ⟨_, rfl⟩
        have hxn : x.name.length ≤ 1000000 := HNM.out x (by rw [← hxe]; exact List.getElem_mem hlt)
        rw [hxe] at hx
        rw [checkPr_at hx] at hrk
        obtain ⟨b, off, A1, c1, A2, c2, rfl, hbl, _, _, hri, hrp, q0, q1, q2, q3, q4, q5, q6⟩ := RdPr.at_ (HRD.out.below HB.out) hx
        have HST := Lib.hid hrk
        have HRI := Lib.hid hri
        have HRP := Lib.hid hrp
        clear hxe hx hrk hri hrp
        go_wp2_with fail
        refine (refIsName_any _ _ (by rw [size_str]; omega)).mono ?_
        rintro e w1 ⟨he, rfl⟩
        rw [bts_str] at he
        cases hnm : isNameP x.name
        · rw [hnm] at he
          subst he
          have hr6 : r = 6 := by rw [← HST.out, if_pos hnm]
          subst hr6
          clear hnm
          go_wp2_with fail
          go_ret
          exact ⟨rfl, HB.out.alloc hsz _⟩
        · rw [hnm] at he
          subst he
          have HNM1 := Lib.hid hnm
          clear hnm
          go_wp2_with fail
          obtain ⟨N, hN⟩ : ∃ N, wr.heap.size = N := ⟨_, rfl⟩
          obtain ⟨W1, hW1⟩ : ∃ W1, wr.alloc (.cells #[.string (str x.name), .int .i64 x.thick, .int .i64 x.width, .int .i64 x.allow, .int .i64 x.wane, .slice A1 x.lens.length c1, .slice A2 x.prices.length c2] 29) = W1 := ⟨_, rfl⟩
          have hz1 : W1.heap.size = N + 1 := by rw [← hW1, World.size_alloc, hN]
          have hG1 : W1.heap[N]? = some (.cells #[.string (str x.name), .int .i64 x.thick, .int .i64 x.width, .int .i64 x.allow, .int .i64 x.wane, .slice A1 x.lens.length c1, .slice A2 x.prices.length c2] 29 (0, 0)) := by rw [← hW1, ← hN]; exact heap_alloc_last wr _
          have HC1 := Lib.hid (show W1.cell? ⟨N, 0, none⟩ = some (.string (str x.name)) ∧ W1.cell? ⟨N, 1, none⟩ = some (.int .i64 x.thick) ∧ W1.cell? ⟨N, 2, none⟩ = some (.int .i64 x.width) ∧ W1.cell? ⟨N, 3, none⟩ = some (.int .i64 x.allow) ∧ W1.cell? ⟨N, 4, none⟩ = some (.int .i64 x.wane) ∧ W1.cell? ⟨N, 5, none⟩ = some (.slice A1 x.lens.length c1) ∧ W1.cell? ⟨N, 6, none⟩ = some (.slice A2 x.prices.length c2) from ⟨cell_of_box hG1 rfl, cell_of_box hG1 rfl, cell_of_box hG1 rfl, cell_of_box hG1 rfl, cell_of_box hG1 rfl, cell_of_box hG1 rfl, cell_of_box hG1 rfl⟩)
          have hb1 : Below w.heap.size w W1 := by rw [← hW1]; exact HB.out.alloc hsz _
          have hbr : Below wr.heap.size wr W1 := by rw [← hW1]; exact (Below.refl _ _).alloc (Nat.le_refl _) _
          have hNw : w.heap.size ≤ N := by omega
          obtain ⟨q, hq⟩ : ∃ q, (findPr (l.take k) x.name).isSome = q := ⟨_, rfl⟩
          have HQ := Lib.hid hq
          have HB1 := Lib.hid hb1
          have HRI1 := Lib.hid (HRI.out.below (hbr.mono hsz))
          have HRP1 := Lib.hid (HRP.out.below (hbr.mono hsz))
          rw [hW1, hN]
          clear hW1 hb1 hbr hG1 hq q0 q1 q2 q3 q4 q5 q6
          go_loopw [5] (fun i wj => ∃ j : Nat, j ≤ k ∧ i = .int .i64 j ∧ (findPr ((l.take k).drop j) x.name).isSome = q ∧ Below (N + 1) W1 wj) (fun i _ => k - (intOf i).toNat)
          case atStart => exact ⟨0, by omega, rfl, HQ.out, Below.refl _ _⟩
          case round =>
            obtain ⟨j, hj, rfl, hqj, hbj⟩ := hrel
            have hszj : N + 1 ≤ wr.heap.size := by have := hbj.size; omega
            have hbw : Below w.heap.size w wr := HB1.out.trans (hbj.mono (by omega))
            have HBJ := Lib.hid hbj
            have HBW := Lib.hid hbw
            by_cases hjk : j < k
            · have hy : l[j]? = some l[j] := List.getElem?_eq_getElem (by omega)
              obtain ⟨y, hye⟩ : ∃ y, l[j] = y := ⟨_, rfl⟩
              rw [hye] at hy
              have hyt : (l.take k)[j]? = some y := by rw [List.getElem?_take, if_pos hjk]; exact hy
              obtain ⟨b', off', B1, d1, B2, d2, hA, _, _, _, _, _, y0, _⟩ := RdPr.at_ (HRD.out.below hbw) hy
              injection hA with hA
              injection hA with e1 e2
              subst e1 e2
              have hn := str_eqb y.name x.name
              have HF := Lib.hid (findPr_step hyt hqj)
              have p0 : wr.cell? ⟨N, 0, none⟩ = some (.string (str x.name)) := (hbj.cell (p := ⟨N, 0, none⟩) (by show N < _; omega)).trans HC1.out.1
              have hj0 : (0 : Int) ≤ (j : Int) := by omega
              have hj1 : (j : Int) < (l.length : Int) := by omega
              have hbj1 : b < wr.heap.size := by omega
              have hbj2 : N < wr.heap.size := by omega
              clear hye hy hyt hqj hbw hbj
              cases he : (y.name == x.name)
              · rw [he] at hn
                have HN := Lib.hid (HF.out.2 he)
                clear he
                go_wp2_with fail
                go_quiet (fail)
                go_wp2_with fail
                exact ⟨⟨j + 1, by omega, by go_num, HN.out, below_drewNn HBJ.out _⟩, by simp [intOf]; omega⟩
              · rw [he] at hn
                have hqt := HF.out.1 he
                have hr7 : r = 7 := by rw [← HST.out, if_neg (by rw [HNM1.out]; decide), if_pos (by rw [HQ.out]; exact hqt)]
                subst hr7
                clear he hqt
                go_wp2_with fail
                go_quiet (fail)
                go_wp2_with fail
                go_ret
                exact ⟨rfl, below_drewNn HBW.out _⟩
            · have hqf : q = false := by
                rw [List.drop_eq_nil_of_le (by rw [List.length_take]; omega)] at hqj
                exact hqj.symm
              have HST1 := Lib.hid (show (if checkNumP x ≠ 0 then checkNumP x else checkPrFrom l (k + 1)) = r by have h9 := HST.out; rw [if_neg (by rw [HNM1.out]; decide), if_neg (by rw [HQ.out, hqf]; decide)] at h9; exact h9)
              have HRIJ := Lib.hid (HRI1.out.below (hbj.mono (by omega)))
              have HRPJ := Lib.hid (HRP1.out.below (hbj.mono (by omega)))
              have p0 : wr.cell? ⟨N, 0, none⟩ = some (.string (str x.name)) := (hbj.cell (p := ⟨N, 0, none⟩) (by show N < _; omega)).trans HC1.out.1
              have p1 : wr.cell? ⟨N, 1, none⟩ = some (.int .i64 x.thick) := (hbj.cell (p := ⟨N, 1, none⟩) (by show N < _; omega)).trans HC1.out.2.1
              have p2 : wr.cell? ⟨N, 2, none⟩ = some (.int .i64 x.width) := (hbj.cell (p := ⟨N, 2, none⟩) (by show N < _; omega)).trans HC1.out.2.2.1
              have p3 : wr.cell? ⟨N, 3, none⟩ = some (.int .i64 x.allow) := (hbj.cell (p := ⟨N, 3, none⟩) (by show N < _; omega)).trans HC1.out.2.2.2.1
              have p4 : wr.cell? ⟨N, 4, none⟩ = some (.int .i64 x.wane) := (hbj.cell (p := ⟨N, 4, none⟩) (by show N < _; omega)).trans HC1.out.2.2.2.2.1
              have p5 : wr.cell? ⟨N, 5, none⟩ = some (.slice A1 x.lens.length c1) := (hbj.cell (p := ⟨N, 5, none⟩) (by show N < _; omega)).trans HC1.out.2.2.2.2.2.1
              have p6 : wr.cell? ⟨N, 6, none⟩ = some (.slice A2 x.prices.length c2) := (hbj.cell (p := ⟨N, 6, none⟩) (by show N < _; omega)).trans HC1.out.2.2.2.2.2.2
              clear hqf hqj hbj hbw HST
              by_cases g1 : x.thick < 5
              · have hcz : checkNumP x = 9 := by rw [checkNumP, if_pos (by omega)]
                have hrz : r = 9 := by rw [← HST1.out, hcz]; rfl
                subst hrz
                clear hcz HST1
                go_wp2_with fail
                go_ret
                exact ⟨rfl, HBW.out⟩
              · have k1 := Int.not_lt.1 g1
                clear g1
                by_cases g2 : 300 < x.thick
                · have hcz : checkNumP x = 9 := by rw [checkNumP, if_pos (by omega)]
                  have hrz : r = 9 := by rw [← HST1.out, hcz]; rfl
                  subst hrz
                  clear hcz HST1
                  go_wp2_with fail
                  go_ret
                  exact ⟨rfl, HBW.out⟩
                · have k2 := Int.not_lt.1 g2
                  clear g2
                  by_cases g3 : x.width < x.thick
                  · have hcz : checkNumP x = 9 := by rw [checkNumP, if_pos (by omega)]
                    have hrz : r = 9 := by rw [← HST1.out, hcz]; rfl
                    subst hrz
                    clear hcz HST1
                    go_wp2_with fail
                    go_ret
                    exact ⟨rfl, HBW.out⟩
                  · have k3 := Int.not_lt.1 g3
                    clear g3
                    by_cases g4 : 600 < x.width
                    · have hcz : checkNumP x = 9 := by rw [checkNumP, if_pos (by omega)]
                      have hrz : r = 9 := by rw [← HST1.out, hcz]; rfl
                      subst hrz
                      clear hcz HST1
                      go_wp2_with fail
                      go_ret
                      exact ⟨rfl, HBW.out⟩
                    · have k4 := Int.not_lt.1 g4
                      clear g4
                      by_cases g5 : x.allow < 0
                      · have hcz : checkNumP x = 9 := by rw [checkNumP, if_neg (by omega), if_pos (by omega)]
                        have hrz : r = 9 := by rw [← HST1.out, hcz]; rfl
                        subst hrz
                        clear hcz HST1
                        go_wp2_with fail
                        go_ret
                        exact ⟨rfl, HBW.out⟩
                      · have k5 := Int.not_lt.1 g5
                        clear g5
                        by_cases g6 : 200 < x.allow
                        · have hcz : checkNumP x = 9 := by rw [checkNumP, if_neg (by omega), if_pos (by omega)]
                          have hrz : r = 9 := by rw [← HST1.out, hcz]; rfl
                          subst hrz
                          clear hcz HST1
                          go_wp2_with fail
                          go_ret
                          exact ⟨rfl, HBW.out⟩
                        · have k6 := Int.not_lt.1 g6
                          clear g6
                          by_cases g7 : x.wane < 0
                          · have hcz : checkNumP x = 9 := by rw [checkNumP, if_neg (by omega), if_pos (by omega)]
                            have hrz : r = 9 := by rw [← HST1.out, hcz]; rfl
                            subst hrz
                            clear hcz HST1
                            go_wp2_with fail
                            go_ret
                            exact ⟨rfl, HBW.out⟩
                          · have k7 := Int.not_lt.1 g7
                            clear g7
                            by_cases g8 : 1000 < x.wane
                            · have hcz : checkNumP x = 9 := by rw [checkNumP, if_neg (by omega), if_pos (by omega)]
                              have hrz : r = 9 := by rw [← HST1.out, hcz]; rfl
                              subst hrz
                              clear hcz HST1
                              go_wp2_with fail
                              go_ret
                              exact ⟨rfl, HBW.out⟩
                            · have k8 := Int.not_lt.1 g8
                              clear g8
                              obtain ⟨gt, gw, hg⟩ : ∃ gt gw, greenP x = (gt, gw) := ⟨_, _, rfl⟩
                              have HGR := Lib.hid hg
                              have hcn : checkNumP x = if 600 < gw then 9 else listsP x := by rw [checkNumP, if_neg (by omega), if_neg (by omega), hg]
                              have HCN := Lib.hid hcn
                              clear hg hcn
                              go_wp2_with fail
                              refine (refGreen_any x A1 A2 _ _ _ _ _).mono ?_
                              rintro e w2 ⟨he, hb2⟩
                              rw [HGR.out] at he
                              subst he
                              have HB2 := Lib.hid (HBW.out.trans (hb2.mono HBW.out.size))
                              have r0 : w2.cell? ⟨N, 0, none⟩ = some (.string (str x.name)) := (hb2.cell (p := ⟨N, 0, none⟩) (by show N < _; omega)).trans p0
                              have r1 : w2.cell? ⟨N, 1, none⟩ = some (.int .i64 x.thick) := (hb2.cell (p := ⟨N, 1, none⟩) (by show N < _; omega)).trans p1
                              have r2 : w2.cell? ⟨N, 2, none⟩ = some (.int .i64 x.width) := (hb2.cell (p := ⟨N, 2, none⟩) (by show N < _; omega)).trans p2
                              have r3 : w2.cell? ⟨N, 3, none⟩ = some (.int .i64 x.allow) := (hb2.cell (p := ⟨N, 3, none⟩) (by show N < _; omega)).trans p3
                              have r4 : w2.cell? ⟨N, 4, none⟩ = some (.int .i64 x.wane) := (hb2.cell (p := ⟨N, 4, none⟩) (by show N < _; omega)).trans p4
                              have r5 : w2.cell? ⟨N, 5, none⟩ = some (.slice A1 x.lens.length c1) := (hb2.cell (p := ⟨N, 5, none⟩) (by show N < _; omega)).trans p5
                              have r6 : w2.cell? ⟨N, 6, none⟩ = some (.slice A2 x.prices.length c2) := (hb2.cell (p := ⟨N, 6, none⟩) (by show N < _; omega)).trans p6
                              have HRI2 := Lib.hid (HRIJ.out.below (hb2.mono HBW.out.size))
                              have HRP2 := Lib.hid (HRPJ.out.below (hb2.mono HBW.out.size))
                              have hsz2 : w.heap.size ≤ w2.heap.size := HB2.out.size
                              clear hb2 p0 p1 p2 p3 p4 p5 p6
                              by_cases g9 : 600 < gw
                              · have hrz : r = 9 := by rw [← HST1.out, HCN.out, if_pos g9]; rfl
                                subst hrz
                                clear HST1 HCN HGR
                                go_wp2_with fail
                                go_ret
                                exact ⟨rfl, HB2.out⟩
                              · have k9 := Int.not_lt.1 g9
                                obtain ⟨e8, he8⟩ : ∃ e8, listsP x = e8 := ⟨_, rfl⟩
                                have HST2 := Lib.hid (show (if e8 ≠ 0 then e8 else checkPrFrom l (k + 1)) = r by have h9 := HST1.out; rw [HCN.out, if_neg g9, he8] at h9; exact h9)
                                have HE8 := Lib.hid he8
                                clear g9 he8 HST1 HCN HGR
                                go_wp2_with fail
                                refine (checkLengths_any x A1 A2 c1 c2 _ ((show RdI w2 w.heap.size _ x.lens from HRI2.out).more hsz2) ((show RdI w2 w.heap.size _ x.prices from HRP2.out).more hsz2)).mono ?_
                                rintro e w7 ⟨he, hb7⟩
                                rw [HE8.out] at he
                                subst he
                                have HB7 := Lib.hid (HB2.out.trans (hb7.mono hsz2))
                                clear hb7
                                by_cases hz : e8 = 0
                                · subst hz
                                  have HN := Lib.hid (show checkPrFrom l (k + 1) = r by have h9 := HST2.out; rw [if_neg (by simp)] at h9; exact h9)
                                  go_wp2_with fail
                                  exact ⟨⟨k + 1, by omega, by go_num, HN.out, HB7.out⟩, by simp [intOf]; omega⟩
                                · have hrz : e8 = r := by have h9 := HST2.out; rw [if_pos hz] at h9; exact h9
                                  subst hrz
                                  have hzb : (e8 != 0) = true := by rw [bne_iff_ne]; exact hz
                                  clear hz
                                  go_wp2_with fail
                                  go_ret
                                  exact ⟨rfl, HB7.out⟩
      · have hr0 : r = 0 := by rw [← hrk, checkPr_end hlt]
        subst hr0
        clear hrk HR
        go_wp2_with fail
        go_ret
        exact ⟨rfl, HB.out⟩

end Go.Proofs.YtokgonpeolppnaaDoor
