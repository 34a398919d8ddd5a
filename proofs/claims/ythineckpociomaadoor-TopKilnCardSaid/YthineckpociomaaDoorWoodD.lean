/-
  The contract of wood.Check.
-/
import Derived.Test.YthineckpociomaaDoorWoodC
import Derived.Deep.RegionHeld3
namespace Go.Proofs.YthineckpociomaaDoor
open Go.RowKit Saw

def IntBelow (n : Int) (w : World) (e : Ending) (w' : World) : Prop := e = .returned (.int .i64 n) ∧ Below w.heap.size w w'

theorem checkFrom_at {l : List Sp} {k : Nat} {x : Sp} {r : Int} (hx : l[k]? = some x) (h : checkFrom l k = r) :
    (if isNameP x.name = false then 6 else if (findSp (l.take k) x.name).isSome then 7 else if inRangeP x = false then 9 else checkFrom l (k + 1)) = r := by
  have hk := List.getElem?_eq_some_iff.1 hx
  rw [checkFrom_eq, dif_pos hk.1, hk.2] at h
  exact h
theorem checkFrom_end {l : List Sp} {k : Nat} {r : Int} (hk : ¬ k < l.length) (h : checkFrom l k = r) : r = 0 := by
  rw [checkFrom_eq, dif_neg hk] at h
  exact h.symm

theorem RdSp.take {w : World} {B b off n c : Nat} {l : List Sp} (h : Rd w B 13 (.slice (some ⟨b, off, none⟩) n c) l.length (spsCells l)) (k : Nat) (hk : k ≤ l.length) :
    Rd w B 13 (.slice (some ⟨b, off, none⟩) k c) (l.take k).length (spsCells (l.take k)) := by
  obtain ⟨h1, h2, A', c', he, hc, h3⟩ := h
  injection he with e1 e2 e3
  subst e1 e2 e3
  have hl : (l.take k).length = k := by rw [List.length_take]; omega
  refine ⟨spsCells_length _, by omega, _, c, by rw [hl], by omega, fun hn => ?_⟩
  obtain ⟨b', off', hA, hb, hcell⟩ := h3 (by omega)
  refine ⟨b', off', hA, hb, fun j u hu => hcell j u ?_⟩
  rw [← List.take_append_drop k l, spsCells, List.flatMap_append, ← spsCells]
  rw [List.getElem?_append_left (List.getElem?_eq_some_iff.1 hu).1]
  exact hu

theorem keep_at {N : Nat} {W1 W : World} {v : Value} (hc : W1.cell? ⟨N, 0, none⟩ = some v) (h : Below (N + 1) W1 W) : W.cell? ⟨N, 0, none⟩ = some v ∧ Below (N + 1) W1 W :=
  ⟨(h.cell (p := ⟨N, 0, none⟩) (Nat.lt_succ_self _)).trans hc, h⟩

section
variable {N g o : Nat} {W1 W w2 : World}
theorem k_alloc (hz : W1.heap.size = N + 1) (h : Below (N + 1) W1 W) {ob : Obj} : Below (N + 1) W1 (W.alloc ob) := h.alloc (by rw [← hz]; exact h.size) ob
theorem k_call (hz : W1.heap.size = N + 1) (h : Below (N + 1) W1 W) (h2 : Below W.heap.size W w2) : Below (N + 1) W1 w2 := h.trans (h2.mono (by rw [← hz]; exact h.size))
theorem k_size (hz : W1.heap.size = N + 1) (h : Below (N + 1) W1 W) (h2 : Below W.heap.size W w2) : N + 1 ≤ w2.heap.size := by have := h.size; have := h2.size; omega
theorem forget {P : World → Prop} {B : Nat} (hS : Below B W1 W) (h : ∀ W, Below B W1 W → P W) : P W := h W hS
theorem k_set (h : Below (N + 1) W1 W) (hg : N + 1 ≤ g) {vs : List Value} : Below (N + 1) W1 (W.setCells g o vs) := h.setCells hg vs o
end

set_option maxRecDepth 100000 in
set_option maxHeartbeats 400000 in
theorem check_big (l : List Sp) (v : Value) (w : World) (hrd : RdSp w v l) (hnm : ∀ x ∈ l, x.name.length ≤ 9223372036854775807) :
    Calls Tryd.prog 19 #[v] w (IntBelow (checkSp l) w) := by
  obtain ⟨A, c, rfl, hc, hml⟩ := hrd.form
  obtain ⟨r, hr⟩ : ∃ r, checkSp l = r := ⟨_, rfl⟩
  rw [hr]
  unfold maxLen at hml
  by_cases h8 : 8 < l.length
  · have hr4 : r = 4 := by rw [← hr, checkSp, if_pos h8]
    subst hr4
    clear hr hrd
    go_enter Tryd.func19, Tryd.ntmps19
    go_wp2_with fail
    go_ret
    exact ⟨rfl, Below.refl _ _⟩
  · rw [checkSp, if_neg h8] at hr
    have HR := Lib.hid hr
    have HRD := Lib.hid hrd
    have HNM := Lib.hid hnm
    clear hr hrd hnm
    go_enter Tryd.func19, Tryd.ntmps19
    go_wp2_with fail
    go_loopw [12] (fun i wr => ∃ k : Nat, k ≤ l.length ∧ i = .int .i64 k ∧ checkFrom l k = r ∧ Below w.heap.size w wr) (fun i _ => l.length - (intOf i).toNat)
    case atStart => exact ⟨0, by omega, rfl, HR.out, Below.refl _ _⟩
    case round =>
      obtain ⟨k, hk, rfl, hrk, hb⟩ := hrel
      have HB := Lib.hid hb
      have hsz := hb.size
      clear hb
      by_cases hlt : k < l.length
      · have hx : l[k]? = some l[k] := List.getElem?_eq_getElem hlt
        obtain ⟨x, hxe⟩ : ∃ x, l[k] = x := ⟨_, rfl⟩
        have hxn : x.name.length ≤ 9223372036854775807 := HNM.out x (by rw [← hxe]; exact List.getElem_mem hlt)
        rw [hxe] at hx
        obtain ⟨b, off, rfl, hbl, hrg⟩ := RdSp.at_ HRD.out hx
        have HRG := Lib.hid (rangeAt_below HB.out hbl hrg)
        have HST := Lib.hid (checkFrom_at hx hrk)
        have HTK := Lib.hid (RdSp.take HRD.out k hk)
        have c0 := spC0 x
        clear hxe hx hrk hrg
        go_wp2_with (first
          | ((with_reducible refine sp_load b (off + k * 13) x ?hx HRG.out ?_); (case hx => rfl))
          | ((with_reducible refine sp_alloc ?_); intro c5 H5)
          | ((with_reducible refine sp_new x wr.heap.size ?hx rfl ?hy H5 ?_); (case hx => rfl); (case hy => rfl)))
        refine (isName_any _ _ (by rw [size_str]; omega)).mono ?_
        rintro e w1 ⟨he, rfl⟩
        rw [bts_str] at he
        cases hnm : isNameP x.name
        · rw [hnm] at he
          subst he
          have hr6 : r = 6 := by rw [← HST.out, if_pos hnm]
          subst hr6
          clear hnm
          go_wp2_with fail
          go_ret
          exact ⟨rfl, HB.out.alloc hsz _⟩
        · rw [hnm] at he
          subst he
          have HNM1 := Lib.hid hnm
          clear hnm
          go_wp2_with fail
          obtain ⟨N, hN⟩ : ∃ N, wr.heap.size = N := ⟨_, rfl⟩
          obtain ⟨W1, hW1⟩ : ∃ W1, wr.alloc (.cells (spCells x).toArray 24) = W1 := ⟨_, rfl⟩
          have hz1 : W1.heap.size = N + 1 := by rw [← hW1, World.size_alloc, hN]
          have hc1 : W1.cell? ⟨N, 0, none⟩ = some (.string (str x.name)) := by rw [← hW1, ← hN, World.cell?_alloc_at _ _ _ _ rfl]; rfl
          have hb1 : Below w.heap.size w W1 := by rw [← hW1]; exact HB.out.alloc hsz _
          have hk1 : (0 : Int) ≤ (k : Int) := by omega
          have hk2 : (k : Int) ≤ (c : Int) := by omega
          obtain ⟨rr, hrr⟩ : ∃ rr, findSp (l.take k) x.name = rr := ⟨_, rfl⟩
          obtain ⟨y, hy⟩ : ∃ y, rr.getD Sp.zero = y := ⟨_, rfl⟩
          obtain ⟨q, hq⟩ : ∃ q, rr.isSome = q := ⟨_, rfl⟩
          have HF : Hid (∀ W, Below (N + 1) W1 W → Calls Tryd.prog 34 #[.slice (some ⟨b, off, none⟩) k c, .string (str x.name)] W fun e w' => e = .returned (.tuple #[.agg (spCells y).toArray, .bool q]) ∧ Below W.heap.size W w') := by
            intro W hW
            have hbw : Below w.heap.size w W := hb1.trans (hW.mono (by omega))
            refine (find_any (l.take k) _ (str x.name) W ?_).mono ?_
            · exact Rd.more (HTK.out.below hbw) hbw.size
            · rintro e w' ⟨he, hb'⟩
              rw [bts_str, hrr, hy, hq] at he
              exact ⟨he, hb'⟩
          have hst : ∀ (W : World) (g : Nat), W.there g 0 13 → (storeCells ⟨g, 0, none⟩ (spCells y)).run Tryd.prog W = .ok () (W.setCells g 0 (spCells y)) := fun W g h => run_store_there W g _ 13 rfl (sp_mem y) h
          have htn := sp_there
          have hly := spCells_len y
          rw [hW1, hN]
          have HN := Lib.hid hN
          have HW1 := Lib.hid hW1
          have HZ1 := Lib.hid hz1
          have HRR := Lib.hid hrr
          have HY := Lib.hid hy
          have HQ := Lib.hid hq
          have HC1 := Lib.hid hc1
          have HRN := Lib.hid (show W1.rangeAt N 0 (spCells x) by rw [← hW1, ← hN]; exact rangeAt_block (heap_alloc_last wr _))
          have hNs : w.heap.size ≤ N + 1 := by omega
          clear hN hW1 hz1 hrr hy hq hc1
          go_region_held3 (fun W => W.cell? ⟨N, 0, none⟩ = some (.string (str x.name)) ∧ Below (N + 1) W1 W)
            ((refine keep_at HC1.out ?_; with_reducible first | exact (Below.refl _ _).drew | exact (k_alloc HZ1.out (Below.refl _ _)).drew | exact k_alloc HZ1.out (And.right (by assumption)) | exact k_set (And.right (by assumption)) hw2 | exact k_set (And.right (by assumption)) (Nat.le_of_eq HZ1.out.symm) | exact k_call HZ1.out (And.right (by assumption)) hb2))
            (first | (go_at_call 34; refine (HF.out _ (And.right (by assumption))).mono ?_; rintro e w2 ⟨rfl, hb2⟩; have hw2 := k_size HZ1.out (And.right (by assumption)) hb2; (try have ht2 := sp_thereB hb2)))
          all_goals
            refine forget (B := N + 1) (W1 := W1) (And.right (by assumption)) ?_
            clear hst htn hly
            intro W3 hB3
            have hz3 : N + 1 ≤ W3.heap.size := by have := hB3.size; rw [HZ1.out] at this; exact this
            have HB3 := Lib.hid hB3
            have HR3 := Lib.hid (rangeAt_below hB3 (Nat.lt_succ_self N) (HRN.out))
            have hbw3 : Below w.heap.size w W3 := hb1.trans (hB3.mono hNs)
            have HBW := Lib.hid hbw3
            have hsz3 := hbw3.size
            clear hB3 hbw3 hb1
            cases q with
            | true =>
              have hr7 : r = 7 := by rw [← HST.out, if_neg (by rw [HNM1.out]; decide), if_pos (by rw [HRR.out]; exact HQ.out)]
              subst hr7
              go_wp2_with fail
              go_ret
              exact ⟨rfl, HBW.out⟩
            | false =>
              have HST2 := Lib.hid (show (if inRangeP x = false then 9 else checkFrom l (k + 1)) = r by have h9 := HST.out; rw [if_neg (by rw [HNM1.out]; decide), if_neg (by rw [HRR.out, HQ.out]; decide)] at h9; exact h9)
              go_wp2_with ((with_reducible refine sp_load N 0 x ?hx HR3.out ?_); (case hx => rfl))
              refine (inRange_any x _).mono ?_
              rintro e w4 ⟨he, hb4⟩
              cases hir : inRangeP x with
              | false =>
                rw [hir] at he
                subst he
                have hr9 : r = 9 := by rw [← HST2.out, if_pos hir]
                subst hr9
                have HB4 := Lib.hid hb4
                clear hb4 hir
                go_wp2_with fail
                go_ret
                exact ⟨rfl, HBW.out.trans (HB4.out.mono hsz3)⟩
              | true =>
                rw [hir] at he
                subst he
                have HN2 := Lib.hid (show checkFrom l (k + 1) = r by have h9 := HST2.out; rw [if_neg (by rw [hir]; decide)] at h9; exact h9)
                have HB4 := Lib.hid hb4
                clear hb4 hir
                go_wp2_with fail
                exact ⟨⟨k + 1, by omega, by go_num, HN2.out, HBW.out.trans (HB4.out.mono hsz3)⟩, by simp [intOf]; omega⟩
      · have hr0 := checkFrom_end hlt hrk
        subst hr0
        clear hrk HR
        go_wp2_with fail
        go_ret
        exact ⟨rfl, HB.out⟩
theorem check_any (l : List Sp) (v : Value) (w : World) (hrd : RdSp w v l) (hnm : ∀ x ∈ l, x.name.length ≤ 1000000) :
    Calls Tryd.prog 19 #[v] w (IntBelow (checkSp l) w) := check_big l v w hrd (fun x hx => by have := hnm x hx; omega)
end Go.Proofs.YthineckpociomaaDoor
