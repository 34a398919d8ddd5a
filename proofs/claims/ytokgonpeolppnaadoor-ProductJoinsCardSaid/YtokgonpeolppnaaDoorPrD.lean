/-
  The contract of product.Check.
-/
import Derived.Test.YtokgonpeolppnaaDoorPrC
namespace Go.Proofs.YtokgonpeolppnaaDoor
open Go.RowKit Saw Go.Sort

theorem cell_of_box {w : World} {N j : Nat} {cs : Array Value} {t : TypeId} {v : Value} (h : w.heap[N]? = some (.cells cs t (0, 0))) (hv : cs[j]? = some v) : w.cell? ⟨N, j, none⟩ = some v := by
  rw [cell_of_row w N j cs t (0, 0) h]; exact hv

set_option maxRecDepth 100000 in
set_option maxHeartbeats 1000000 in
theorem prCheck_any (l : List Pr) (v : Value) (w : World) (hrd : RdPr w w.heap.size v l) (hnm : ∀ x ∈ l, x.name.length ≤ 1000000) :
    Calls Tryd.prog 13 #[v] w (IntB (checkPr l) w) := by
  obtain ⟨A, c, rfl, hc, hml⟩ := hrd.form
  obtain ⟨r, hr⟩ : ∃ r, checkPr l = r := ⟨_, rfl⟩
  rw [hr]
  unfold maxLen at hml
  by_cases h16 : 16 < l.length
  · have hrz : r = 4 := by rw [← hr, checkPr, if_pos h16]
    subst hrz
    clear hr hrd
    go_enter Tryd.func13, Tryd.ntmps13
    go_wp2_with fail
    go_ret
    exact ⟨rfl, Below.refl _ _⟩
  · rw [checkPr, if_neg h16] at hr
    have HR := Lib.hid hr
    have HRD := Lib.hid hrd
    have HNM := Lib.hid hnm
    clear hr hrd hnm
    go_enter Tryd.func13, Tryd.ntmps13
    go_wp2_with fail
    go_loopw [13] (fun i wr => ∃ k : Nat, k ≤ l.length ∧ i = .int .i64 k ∧ checkPrFrom l k = r ∧ Below w.heap.size w wr) (fun i _ => l.length - (intOf i).toNat)
    case atStart => exact ⟨0, by omega, rfl, HR.out, Below.refl _ _⟩
    case round =>
      obtain ⟨k, hk, rfl, hrk, hb⟩ := hrel
      have HB := Lib.hid hb
      have hsz := hb.size
      clear hb
      by_cases hlt : k < l.length
      · have hx : l[k]? = some l[k] := List.getElem?_eq_getElem hlt
        obtain ⟨x, hxe⟩ : ∃ x, l[k] = x := ⟨_, rfl⟩
        have hxn : x.name.length ≤ 1000000 := HNM.out x (by rw [← hxe]; exact List.getElem_mem hlt)
        rw [hxe] at hx
        rw [checkPr_at hx] at hrk
        obtain ⟨b, off, A1, c1, A2, c2, rfl, hbl, _, _, hri, hrp, q0, q1, q2, q3, q4, q5, q6⟩ := RdPr.at_ (HRD.out.below HB.out) hx
        have HST := Lib.hid hrk
        have HTK := Lib.hid (RdPr.take (HRD.out.below HB.out) k hk)
        have HRI := Lib.hid hri
        have HRP := Lib.hid hrp
        clear hxe hx hrk hri hrp
        go_wp2_with fail
        refine (isName_any _ _ (by rw [size_str]; omega)).mono ?_
        rintro e w1 ⟨he, rfl⟩
        rw [bts_str] at he
        cases hnm : isNameP x.name
        · rw [hnm] at he
          subst he
          have hr6 : r = 6 := by rw [← HST.out, if_pos hnm]
          subst hr6
          clear hnm
          go_wp2_with fail
          go_ret
          exact ⟨rfl, HB.out.alloc hsz _⟩
        · rw [hnm] at he
          subst he
          have HNM1 := Lib.hid hnm
          clear hnm
          go_wp2_with fail
          obtain ⟨N, hN⟩ : ∃ N, wr.heap.size = N := ⟨_, rfl⟩
          obtain ⟨W1, hW1⟩ : ∃ W1, wr.alloc (.cells #[.string (str x.name), .int .i64 x.thick, .int .i64 x.width, .int .i64 x.allow, .int .i64 x.wane, .slice A1 x.lens.length c1, .slice A2 x.prices.length c2] 29) = W1 := ⟨_, rfl⟩
          have hz1 : W1.heap.size = N + 1 := by rw [← hW1, World.size_alloc, hN]
          have hG1 : W1.heap[N]? = some (.cells #[.string (str x.name), .int .i64 x.thick, .int .i64 x.width, .int .i64 x.allow, .int .i64 x.wane, .slice A1 x.lens.length c1, .slice A2 x.prices.length c2] 29 (0, 0)) := by rw [← hW1, ← hN]; exact heap_alloc_last wr _
          have HC1 := Lib.hid (show W1.cell? ⟨N, 0, none⟩ = some (.string (str x.name)) ∧ W1.cell? ⟨N, 1, none⟩ = some (.int .i64 x.thick) ∧ W1.cell? ⟨N, 2, none⟩ = some (.int .i64 x.width) ∧ W1.cell? ⟨N, 3, none⟩ = some (.int .i64 x.allow) ∧ W1.cell? ⟨N, 4, none⟩ = some (.int .i64 x.wane) ∧ W1.cell? ⟨N, 5, none⟩ = some (.slice A1 x.lens.length c1) ∧ W1.cell? ⟨N, 6, none⟩ = some (.slice A2 x.prices.length c2) from ⟨cell_of_box hG1 rfl, cell_of_box hG1 rfl, cell_of_box hG1 rfl, cell_of_box hG1 rfl, cell_of_box hG1 rfl, cell_of_box hG1 rfl, cell_of_box hG1 rfl⟩)
          have hb1 : Below w.heap.size w W1 := by rw [← hW1]; exact HB.out.alloc hsz _
          have hbr : Below wr.heap.size wr W1 := by rw [← hW1]; exact (Below.refl _ _).alloc (Nat.le_refl _) _
          have hk1 : (0 : Int) ≤ (k : Int) := by omega
          have hk2 : (k : Int) ≤ (c : Int) := by omega
          obtain ⟨rr, hrr⟩ : ∃ rr, findPr (l.take k) x.name = rr := ⟨_, rfl⟩
          obtain ⟨y, hy⟩ : ∃ y : Nat, rr.getD 0 = y := ⟨_, rfl⟩
          obtain ⟨q, hq⟩ : ∃ q, rr.isSome = q := ⟨_, rfl⟩
          have hcn : ∀ d os, (grow (redrawn W1 d) os).cell? ⟨N, 0, none⟩ = some (.string (str x.name)) := fun d os => cell_regrown HC1.out.1 d os
          have SF : Hid (∀ d os, Calls Tryd.prog 27 #[.slice (some ⟨b, off, none⟩) k c, .string (str x.name)] (grow (redrawn W1 d) os) fun e w' => e = .returned (.tuple #[.int .i64 (y : Nat), .bool q]) ∧ Below (grow (redrawn W1 d) os).heap.size (grow (redrawn W1 d) os) w') := fun d os => by
            have hbl2 := below_regrown W1 d os
            have ht : RdPr (grow (redrawn W1 d) os) w.heap.size (.slice (some ⟨b, off, none⟩) k c) (l.take k) := (HTK.out.below (hbr.mono hsz)).below (hbl2.mono (by omega))
            refine (prFind_any (l.take k) _ x.name _ ?_).mono ?_
            · exact RdPr.more ht (Nat.le_trans hb1.size hbl2.size)
            · rintro e w' ⟨he, hb'⟩
              rw [hrr, hy, hq] at he
              exact ⟨he, hb'⟩
          have HB1 := Lib.hid hb1
          have HBR := Lib.hid hbr
          have HRR := Lib.hid hrr
          have HQ := Lib.hid hq
          rw [hW1, hN]
          clear hW1 hb1 hbr hG1 hrr hy hq q0 q1 q2 q3 q4 q5 q6
          refine wp_region_quiet_below (by kernel_rfl) (by kernel_rfl) ?_
          repeat (first
            | (open Go.BigFrame in go_big_quiet_step ((with_reducible exact Calls.regrown_of (SF.out _ _))))
            | (quiet_step ((with_reducible exact Calls.regrown_of (SF.out _ _)))))
          refine wpQuiet_nil ?_
          rintro w6 ⟨z6, hw6⟩
          have hb6 : Below W1.heap.size W1 w6 := by rw [hw6]; exact below_regrown _ _ _
          have HB6 := Lib.hid (HB1.out.trans (hb6.mono (HB1.out.size)))
          have HRI6 := Lib.hid ((HRI.out.below (HBR.out.mono hsz)).below (hb6.mono HB1.out.size))
          have HRP6 := Lib.hid ((HRP.out.below (HBR.out.mono hsz)).below (hb6.mono HB1.out.size))
          have hsz6 : w.heap.size ≤ w6.heap.size := HB6.out.size
          cases q with
          | true =>
            have hr7 : r = 7 := by rw [← HST.out, if_neg (by rw [HNM1.out]; decide), if_pos (by rw [HRR.out]; exact HQ.out)]
            subst hr7
            clear hw6 hb6 hcn
            go_wp2_with fail
            go_ret
            exact ⟨rfl, HB6.out⟩
          | false =>
            obtain ⟨e8, he8⟩ : ∃ e8, checkNumP x = e8 := ⟨_, rfl⟩
            have HST2 := Lib.hid (show (if e8 ≠ 0 then e8 else checkPrFrom l (k + 1)) = r by have h9 := HST.out; rw [if_neg (by rw [HNM1.out]; decide), if_neg (by rw [HRR.out, HQ.out]; decide), he8] at h9; exact h9)
            have HE8 := Lib.hid he8
            have p0 : w6.cell? ⟨N, 0, none⟩ = some (.string (str x.name)) := (hb6.cell (p := ⟨N, 0, none⟩) (by show N < _; omega)).trans HC1.out.1
            have p1 : w6.cell? ⟨N, 1, none⟩ = some (.int .i64 x.thick) := (hb6.cell (p := ⟨N, 1, none⟩) (by show N < _; omega)).trans HC1.out.2.1
            have p2 : w6.cell? ⟨N, 2, none⟩ = some (.int .i64 x.width) := (hb6.cell (p := ⟨N, 2, none⟩) (by show N < _; omega)).trans HC1.out.2.2.1
            have p3 : w6.cell? ⟨N, 3, none⟩ = some (.int .i64 x.allow) := (hb6.cell (p := ⟨N, 3, none⟩) (by show N < _; omega)).trans HC1.out.2.2.2.1
            have p4 : w6.cell? ⟨N, 4, none⟩ = some (.int .i64 x.wane) := (hb6.cell (p := ⟨N, 4, none⟩) (by show N < _; omega)).trans HC1.out.2.2.2.2.1
            have p5 : w6.cell? ⟨N, 5, none⟩ = some (.slice A1 x.lens.length c1) := (hb6.cell (p := ⟨N, 5, none⟩) (by show N < _; omega)).trans HC1.out.2.2.2.2.2.1
            have p6 : w6.cell? ⟨N, 6, none⟩ = some (.slice A2 x.prices.length c2) := (hb6.cell (p := ⟨N, 6, none⟩) (by show N < _; omega)).trans HC1.out.2.2.2.2.2.2
            clear hw6 hb6 hcn he8
            go_wp2_with fail
            refine (checkNumbers_any x A1 A2 c1 c2 _ ((show RdI w6 w.heap.size _ x.lens from HRI6.out).more hsz6) ((show RdI w6 w.heap.size _ x.prices from HRP6.out).more hsz6)).mono ?_
            rintro e w7 ⟨he, hb7⟩
            rw [HE8.out] at he
            subst he
            have HB7 := Lib.hid (HB6.out.trans (hb7.mono hsz6))
            clear hb7
            by_cases hz : e8 = 0
            · subst hz
              have HN := Lib.hid (show checkPrFrom l (k + 1) = r by have h9 := HST2.out; rw [if_neg (by simp)] at h9; exact h9)
              go_wp2_with fail
              exact ⟨⟨k + 1, by omega, by go_num, HN.out, HB7.out⟩, by simp [intOf]; omega⟩
            · have hrz : e8 = r := by have h9 := HST2.out; rw [if_pos hz] at h9; exact h9
              subst hrz
              have hzb : (e8 != 0) = true := by rw [bne_iff_ne]; exact hz
              clear hz
              go_wp2_with fail
              go_ret
              exact ⟨rfl, HB7.out⟩
      · have hr0 : r = 0 := by rw [← hrk, checkPr_end hlt]
        subst hr0
        clear hrk HR
        go_wp2_with fail
        go_ret
        exact ⟨rfl, HB.out⟩

end Go.Proofs.YtokgonpeolppnaaDoor
