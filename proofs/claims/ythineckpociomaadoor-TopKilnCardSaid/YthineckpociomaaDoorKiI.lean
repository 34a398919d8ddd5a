/-
  The contract of the kiln's Tick.
-/
import Derived.Test.YthineckpociomaaDoorKiH
import Derived.Deep.Cut
namespace Go.Proofs.YthineckpociomaaDoor
open Go.RowKit Saw Go.Sort

theorem rd_setO {w : World} {B size n g j : Nat} {v u : Value} {xs : List Value} (h : Rd w B size v n xs) (hv : v.ownBlock ≠ some g) : Rd (w.setCell ⟨g, j, none⟩ u) B size v n xs := by
  obtain ⟨h1, h2, A, c, rfl, hc, h3⟩ := h
  refine ⟨h1, h2, A, c, rfl, hc, fun hn => ?_⟩
  obtain ⟨b, off, rfl, hb, hcell⟩ := h3 hn
  refine ⟨b, off, rfl, hb, fun i y hy => ?_⟩
  have hbg : g ≠ b := fun e => hv (by subst e; rfl)
  rw [World.cell?_setCell_far w ⟨g, j, none⟩ ⟨b, off + i, none⟩ u hbg]
  exact hcell i y hy
theorem rd_setB {w : World} {B size n g j : Nat} {v u : Value} {xs : List Value} (h : Rd w B size v n xs) (hg : B ≤ g) : Rd (w.setCell ⟨g, j, none⟩ u) B size v n xs := by
  refine h.keep fun p hp => ?_
  exact World.cell?_setCell_far w ⟨g, j, none⟩ p u (show g ≠ p.block by omega)
section
variable {W W5 W0 : World} {g : Nat} {sc : Sc} {s : Sp} {sv iv : Value} {k : Ki}
theorem KnAt.set (h : KnAt W g sc s sv iv k) (j : Nat) (v : Value) (k' : Ki) (hc : (kiCells sc s sv iv k).toArray.setIfInBounds j v = (kiCells sc s sv iv k').toArray) (hi : k'.items = k.items) : KnAt (W.setCell ⟨g, j, none⟩ v) g sc s sv iv k' := by
  refine ⟨?_, rd_setB h.st (Nat.le_refl _), ?_, h.ne⟩
  · have h1 := setc_heap h.blk v j
    rw [hc] at h1
    exact h1
  · rw [hi, show (W.setCell ⟨g, j, none⟩ v).heap.size = W.heap.size by simp [World.setCell]]
    exact rd_setO h.it h.ne
theorem KnAt.setIt (h : KnAt W g sc s sv iv k) {iv' : Value} {its : List (Int × Cl)} (hr : RdIt W W.heap.size iv' its) (hne : iv'.ownBlock ≠ some g) : KnAt (W.setCell ⟨g, 16, none⟩ iv') g sc s sv iv' { k with items := its } := by
  refine ⟨?_, rd_setB h.st (Nat.le_refl _), ?_, hne⟩
  · exact setc_heap h.blk iv' 16
  · rw [show (W.setCell ⟨g, 16, none⟩ iv').heap.size = W.heap.size by simp [World.setCell]]
    exact rd_setO hr hne
theorem KnAt.alloc (h : KnAt W g sc s sv iv k) (o : Obj) : KnAt (W.alloc o) g sc s sv iv k := h.below (bel_alloc (Below.refl _ _))
theorem KnAt.drew (h : KnAt W g sc s sv iv k) : KnAt W.drew g sc s sv iv k := ⟨h.blk, h.st, h.it, h.ne⟩
theorem gbt_below (h : W0.grownBy W (some g)) (hb : Below W.heap.size W W5) : W0.grownBy W5 (some g) :=
  ⟨hb.os.trans h.os, hb.tape.trans h.tape, hb.output.trans h.output, Nat.le_trans h.size hb.size, fun k hk hne => (hb.block k (Nat.lt_of_lt_of_le hk h.size)).trans (h.block k hk hne)⟩
theorem gbt_set (h : W0.grownBy W (some g)) (j : Nat) (v : Value) : W0.grownBy (W.setCell ⟨g, j, none⟩ v) (some g) :=
  ⟨h.os, h.tape, h.output, by rw [show (W.setCell ⟨g, j, none⟩ v).heap.size = W.heap.size by simp [World.setCell]]; exact h.size, fun i hi hne => (Below.heap_setCell _ _ _ _ (fun e => hne (by rw [e]))).trans (h.block i hi hne)⟩
theorem KnAt.setO (h : KnAt W g sc s sv iv k) {m : Nat} (j : Nat) (v : Value) (hm : g < m) (hiv : iv.ownBlock ≠ some m) : KnAt (W.setCell ⟨m, j, none⟩ v) g sc s sv iv k :=
  ⟨(Below.heap_setCell _ _ _ _ (by show g ≠ m; omega)).trans h.blk, rd_setB h.st (Nat.le_of_lt hm), by rw [show (W.setCell ⟨m, j, none⟩ v).heap.size = W.heap.size by simp [World.setCell]]; exact rd_setO h.it hiv, h.ne⟩
theorem gbt_drewN (h : W0.grownBy W (some g)) (n : Nat) : W0.grownBy (W.drewN n) (some g) := ⟨h.os, h.tape, h.output, h.size, h.block⟩
theorem gbt_refl (W : World) : W.grownBy W (some g) := ⟨rfl, rfl, rfl, Nat.le_refl _, fun _ _ _ => rfl⟩
theorem kn_S (h : KnAt W g sc s sv iv k) : W.cell? ⟨g, 0, none⟩ = some (.string (str sc.name)) ∧ W.cell? ⟨g, 1, none⟩ = some (.int .i64 sc.ramp) ∧ W.cell? ⟨g, 2, none⟩ = some sv ∧ W.cell? ⟨g, 3, none⟩ = some (.string (str s.name)) ∧ W.cell? ⟨g, 4, none⟩ = some (.int .i64 s.green) ∧ W.cell? ⟨g, 5, none⟩ = some (.int .i64 s.fast) ∧ W.cell? ⟨g, 6, none⟩ = some (.int .i64 s.slow) ∧ W.cell? ⟨g, 7, none⟩ = some (.int .i64 s.safe) ∧ W.cell? ⟨g, 8, none⟩ = some (.int .i64 s.grad) ∧ W.cell? ⟨g, 9, none⟩ = some (.int .i64 s.crack) ∧ W.cell? ⟨g, 10, none⟩ = some (.int .i64 s.temp) ∧ W.cell? ⟨g, 11, none⟩ = some (.int .i64 s.depress) ∧ W.cell? ⟨g, 12, none⟩ = some (.int .i64 s.density) ∧ W.cell? ⟨g, 13, none⟩ = some (.int .i64 s.stiff) ∧ W.cell? ⟨g, 14, none⟩ = some (.int .i64 s.knots) ∧ W.cell? ⟨g, 15, none⟩ = some (.int .i64 s.shrink) ∧ W.cell? ⟨g, 19, none⟩ = some (.int .i64 k.stage) := ⟨h.cell (j := 0) rfl, h.cell (j := 1) rfl, h.cell (j := 2) rfl, h.cell (j := 3) rfl, h.cell (j := 4) rfl, h.cell (j := 5) rfl, h.cell (j := 6) rfl, h.cell (j := 7) rfl, h.cell (j := 8) rfl, h.cell (j := 9) rfl, h.cell (j := 10) rfl, h.cell (j := 11) rfl, h.cell (j := 12) rfl, h.cell (j := 13) rfl, h.cell (j := 14) rfl, h.cell (j := 15) rfl, h.cell (j := 19) rfl⟩
theorem kn_Sset {m i : Nat} {u : Value} (h : W.cell? ⟨g, 0, none⟩ = some (.string (str sc.name)) ∧ W.cell? ⟨g, 1, none⟩ = some (.int .i64 sc.ramp) ∧ W.cell? ⟨g, 2, none⟩ = some sv ∧ W.cell? ⟨g, 3, none⟩ = some (.string (str s.name)) ∧ W.cell? ⟨g, 4, none⟩ = some (.int .i64 s.green) ∧ W.cell? ⟨g, 5, none⟩ = some (.int .i64 s.fast) ∧ W.cell? ⟨g, 6, none⟩ = some (.int .i64 s.slow) ∧ W.cell? ⟨g, 7, none⟩ = some (.int .i64 s.safe) ∧ W.cell? ⟨g, 8, none⟩ = some (.int .i64 s.grad) ∧ W.cell? ⟨g, 9, none⟩ = some (.int .i64 s.crack) ∧ W.cell? ⟨g, 10, none⟩ = some (.int .i64 s.temp) ∧ W.cell? ⟨g, 11, none⟩ = some (.int .i64 s.depress) ∧ W.cell? ⟨g, 12, none⟩ = some (.int .i64 s.density) ∧ W.cell? ⟨g, 13, none⟩ = some (.int .i64 s.stiff) ∧ W.cell? ⟨g, 14, none⟩ = some (.int .i64 s.knots) ∧ W.cell? ⟨g, 15, none⟩ = some (.int .i64 s.shrink) ∧ W.cell? ⟨g, 19, none⟩ = some (.int .i64 k.stage)) (hm : m ≠ g) : (W.setCell ⟨m, i, none⟩ u).cell? ⟨g, 0, none⟩ = some (.string (str sc.name)) ∧ (W.setCell ⟨m, i, none⟩ u).cell? ⟨g, 1, none⟩ = some (.int .i64 sc.ramp) ∧ (W.setCell ⟨m, i, none⟩ u).cell? ⟨g, 2, none⟩ = some sv ∧ (W.setCell ⟨m, i, none⟩ u).cell? ⟨g, 3, none⟩ = some (.string (str s.name)) ∧ (W.setCell ⟨m, i, none⟩ u).cell? ⟨g, 4, none⟩ = some (.int .i64 s.green) ∧ (W.setCell ⟨m, i, none⟩ u).cell? ⟨g, 5, none⟩ = some (.int .i64 s.fast) ∧ (W.setCell ⟨m, i, none⟩ u).cell? ⟨g, 6, none⟩ = some (.int .i64 s.slow) ∧ (W.setCell ⟨m, i, none⟩ u).cell? ⟨g, 7, none⟩ = some (.int .i64 s.safe) ∧ (W.setCell ⟨m, i, none⟩ u).cell? ⟨g, 8, none⟩ = some (.int .i64 s.grad) ∧ (W.setCell ⟨m, i, none⟩ u).cell? ⟨g, 9, none⟩ = some (.int .i64 s.crack) ∧ (W.setCell ⟨m, i, none⟩ u).cell? ⟨g, 10, none⟩ = some (.int .i64 s.temp) ∧ (W.setCell ⟨m, i, none⟩ u).cell? ⟨g, 11, none⟩ = some (.int .i64 s.depress) ∧ (W.setCell ⟨m, i, none⟩ u).cell? ⟨g, 12, none⟩ = some (.int .i64 s.density) ∧ (W.setCell ⟨m, i, none⟩ u).cell? ⟨g, 13, none⟩ = some (.int .i64 s.stiff) ∧ (W.setCell ⟨m, i, none⟩ u).cell? ⟨g, 14, none⟩ = some (.int .i64 s.knots) ∧ (W.setCell ⟨m, i, none⟩ u).cell? ⟨g, 15, none⟩ = some (.int .i64 s.shrink) ∧ (W.setCell ⟨m, i, none⟩ u).cell? ⟨g, 19, none⟩ = some (.int .i64 k.stage) := by
  have e : ∀ j, (W.setCell ⟨m, i, none⟩ u).cell? ⟨g, j, none⟩ = W.cell? ⟨g, j, none⟩ := fun j => World.cell?_setCell_far W ⟨m, i, none⟩ ⟨g, j, none⟩ u hm
  simp only [e]
  exact h
theorem vars_set {w : World} {g j : Nat} {u : Value} (h : VarsK w) (hg : 0 < g) : VarsK (w.setCell ⟨g, j, none⟩ u) :=
  h.below (Below.setCell (Below.refl g w) (p := ⟨g, j, none⟩) (Nat.le_refl g) u) hg
theorem targetP_in' (sc : Sc) (stage maxT maxD : Int) (ht : 0 ≤ maxT) (hd : 0 ≤ maxD) : (targetP sc stage maxT maxD).1 ≤ maxT ∧ (targetP sc stage maxT maxD).2 ≤ maxD := by
  unfold targetP
  split
  · exact ⟨ht, hd⟩
  · simp only; omega
theorem step_still {sc : Sc} {s : Sp} {k : Ki} {fl : List Int} {C : Cm} (hC : stepCm sc s k fl = C) (hF : fl.contains 2 = true) :
    stepK sc s k fl = ⟨driedP s C false k.items, C, if (endsSc sc k.stage (k.inStage + 1) (meanP (driedP s C false k.items))).2 = true then (endsSc sc k.stage (k.inStage + 1) (meanP (driedP s C false k.items))).1 else k.stage, if (endsSc sc k.stage (k.inStage + 1) (meanP (driedP s C false k.items))).2 = true then 0 else k.inStage + 1, k.ticks + 1, k.held⟩ := by
  unfold stepK stepEnds stepItems itemsP holdP
  rw [hC, hF]
  rfl
theorem step_fan {sc : Sc} {s : Sp} {k : Ki} {fl : List Int} {C : Cm} (hC : stepCm sc s k fl = C) (hF : fl.contains 2 = false) (hb : steepP s (driedP s C true k.items) k.items = false) :
    stepK sc s k fl = ⟨driedP s C true k.items, C, if (endsSc sc k.stage (k.inStage + 1) (meanP (driedP s C true k.items))).2 = true then (endsSc sc k.stage (k.inStage + 1) (meanP (driedP s C true k.items))).1 else k.stage, if (endsSc sc k.stage (k.inStage + 1) (meanP (driedP s C true k.items))).2 = true then 0 else k.inStage + 1, k.ticks + 1, k.held⟩ := by
  unfold stepK stepEnds stepItems itemsP holdP
  rw [hC, hF, show (!false) = true from rfl, hb]
  rfl
theorem step_hold {sc : Sc} {s : Sp} {k : Ki} {fl : List Int} {C : Cm} (hC : stepCm sc s k fl = C) (hF : fl.contains 2 = false) (hb : steepP s (driedP s C true k.items) k.items = true) :
    stepK sc s k fl = ⟨driedP s C false k.items, C, if (endsSc sc k.stage (k.inStage + 1) (meanP (driedP s C false k.items))).2 = true then (endsSc sc k.stage (k.inStage + 1) (meanP (driedP s C false k.items))).1 else k.stage, if (endsSc sc k.stage (k.inStage + 1) (meanP (driedP s C false k.items))).2 = true then 0 else k.inStage + 1, k.ticks + 1, k.held + 1⟩ := by
  unfold stepK stepEnds stepItems itemsP holdP
  rw [hC, hF, show (!false) = true from rfl, hb]
  rfl
theorem tg_A {w1 w4 : World} {T : Cm} (hb : Below (w1.alloc (cmO ⟨0, 0⟩)).drew.heap.size (w1.alloc (cmO ⟨0, 0⟩)).drew w4) :
    ((w4.setCell ⟨w1.heap.size, 0, none⟩ (.int .i64 T.temp)).setCell ⟨w1.heap.size, 1, none⟩ (.int .i64 T.dep)).heap[w1.heap.size]? = some (cmO T) ∧ Below w1.heap.size w1 ((w4.setCell ⟨w1.heap.size, 0, none⟩ (.int .i64 T.temp)).setCell ⟨w1.heap.size, 1, none⟩ (.int .i64 T.dep)) := by
  have hz : (w1.alloc (cmO ⟨0, 0⟩)).drew.heap.size = w1.heap.size + 1 := World.size_alloc _ _
  have h1 : w4.heap[w1.heap.size]? = some (cmO ⟨0, 0⟩) := (hb.block _ (by omega)).trans (heap_alloc_last w1 _)
  have h2 : Below w1.heap.size w1 w4 := (bel_drew (bel_alloc (Below.refl _ _))).trans (hb.mono (by omega))
  exact ⟨setc_heap (setc_heap h1 _ 0) _ 1, Below.setCell (Below.setCell h2 (p := ⟨w1.heap.size, 0, none⟩) (Nat.le_refl _) _) (p := ⟨w1.heap.size, 1, none⟩) (Nat.le_refl _) _⟩
theorem own_ne {B size n : Nat} {ty : TypeId} {v : Value} {xs : List Value} (h : W.ownsRow B ty size v n xs) (hg : g < B) : v.ownBlock ≠ some g := by
  obtain ⟨_, h⟩ := h
  rcases h with ⟨rfl, _⟩ | ⟨b, cap, cur, rfl, hb, _⟩
  · intro h; cases h
  · intro h
    have h : b = g := by injection h with h
    subst h
    omega
theorem driedP_ok {s : Sp} {a : Cm} {fan : Bool} {l : List (Int × Cl)} (hl : ∀ x ∈ l, ClOk x.2 ∧ 1 ≤ x.1 ∧ x.1 ≤ 600) : ∀ x ∈ driedP s a fan l, ClOk x.2 := by
  intro x hx
  obtain ⟨y, hy, rfl⟩ := List.mem_map.1 hx
  exact (tickP_ok (hl y hy).1 s y.1 a fan).1
theorem tg_B {w1 w4 : World} {T : Cm} (hb : Below w1.heap.size w1 w4) : (w4.alloc (cmO T)).heap[w4.heap.size]? = some (cmO T) ∧ Below w1.heap.size w1 (w4.alloc (cmO T)) ∧ w1.heap.size ≤ w4.heap.size := ⟨heap_alloc_last w4 _, bel_alloc hb, hb.size⟩
end

set_option maxRecDepth 100000 in
set_option maxHeartbeats 16000000 in
theorem kTick_any (W : World) (g : Nat) (sc : Sc) (s : Sp) (sv iv : Value) (k : Ki) (fl : List Int) (v : Value) (h : KnAt W g sc s sv iv k) (hok : KiOk sc s k) (hss : SsOk sc s) (hnd : k.stage ≠ sc.stages.length) (htk : k.ticks ≤ 100000) (hfl : RdI W W.heap.size v fl) (hflg : v.ownBlock ≠ some g) (hv : VarsK W) (hgv : 0 < g) :
    Calls Tryd.prog 27 #[.pointer (some ⟨g, 0, none⟩), v] W (fun e w' => (∃ b, e = .returned (.bool b)) ∧ W.grownBy w' (some g) ∧ ∃ iv', KnAt w' g sc s sv iv' (stepK sc s k fl) ∧ ∀ m, m < W.heap.size → iv'.ownBlock ≠ some m) := by
  obtain ⟨A, c, rfl, hc, hml⟩ := h.st.form
  unfold maxLen at hml
  have HK := Lib.hid h
  have HOK := Lib.hid hok
  have HSS := Lib.hid hss
  have HFL := Lib.hid hfl
  have HFG := Lib.hid hflg
  have HV := Lib.hid hv
  have hsz := h.sz
  have hdn : decide (k.stage = (sc.stages.length : Int)) = false := by rw [decide_eq_false_iff_not]; exact hnd
  have HDN := Lib.hid hdn
  clear h hok hss hfl hflg hv hdn
  go_enter Tryd.func27, Tryd.ntmps27
  go_wp2_with fail
  refine (done_any W g sc s _ iv k HK.out).mono ?_
  rintro e w1 ⟨he, n1, hw1⟩
  rw [HDN.out] at he
  subst he
  have HK1 := Lib.hid (show KnAt w1 g sc s (.slice A sc.stages.length c) iv k by rw [hw1]; exact HK.out.drewN n1)
  have HB1 := Lib.hid (show Below W.heap.size W w1 by rw [hw1]; exact below_drewNn (Below.refl _ _) n1)
  have hs1 : w1.heap.size = W.heap.size := by rw [hw1]; rfl
  have hgw1 : g < w1.heap.size := by omega
  have HS1 := Lib.hid hs1
  clear hw1 hs1
  go_upto_region 3 with fail
  obtain ⟨T, hT⟩ : ∃ T : Cm, (⟨(targetP sc k.stage s.temp s.depress).1, (targetP sc k.stage s.temp s.depress).2⟩ : Cm) = T := ⟨_, rfl⟩
  have HTG : Hid (∀ V, RdSt V V.heap.size (.slice A sc.stages.length c) sc.stages → Calls Tryd.prog 38 #[.agg #[.string (str sc.name), .int .i64 sc.ramp, .slice A sc.stages.length c], .int .i64 k.stage, .agg #[.string (str s.name), .int .i64 s.green, .int .i64 s.fast, .int .i64 s.slow, .int .i64 s.safe, .int .i64 s.grad, .int .i64 s.crack, .int .i64 s.temp, .int .i64 s.depress, .int .i64 s.density, .int .i64 s.stiff, .int .i64 s.knots, .int .i64 s.shrink]] V fun e w' => e = .returned (.agg #[.int .i64 T.temp, .int .i64 T.dep]) ∧ Below V.heap.size V w') := Lib.hid (fun V hV => by rw [← hT]; exact target_any sc A c k.stage s V hV)
  have HT := Lib.hid hT
  have SK := Lib.hid (fun (V : World) (hV : KnAt V g sc s (.slice A sc.stages.length c) iv k) => kn_S hV)
  clear hT
  go_cut [5] from 16 (fun x5 wx => ∃ m, x5 = .pointer (some ⟨m, 0, none⟩) ∧ wx.heap[m]? = some (cmO T) ∧ Below w1.heap.size w1 wx ∧ w1.heap.size ≤ m)
  case first =>
    have S0 := Lib.hid (SK.out w1.drew HK1.out.drew)
    have S1 := Lib.hid (SK.out (w1.alloc (.cells #[.int .i64 0, .int .i64 0] 42)).drew (HK1.out.alloc _).drew)
    have hgm : w1.heap.size ≠ g := by omega
    go_region_held3 (fun V => V.cell? ⟨g, 0, none⟩ = some (.string (str sc.name)) ∧ V.cell? ⟨g, 1, none⟩ = some (.int .i64 sc.ramp) ∧ V.cell? ⟨g, 2, none⟩ = some (.slice A sc.stages.length c) ∧ V.cell? ⟨g, 3, none⟩ = some (.string (str s.name)) ∧ V.cell? ⟨g, 4, none⟩ = some (.int .i64 s.green) ∧ V.cell? ⟨g, 5, none⟩ = some (.int .i64 s.fast) ∧ V.cell? ⟨g, 6, none⟩ = some (.int .i64 s.slow) ∧ V.cell? ⟨g, 7, none⟩ = some (.int .i64 s.safe) ∧ V.cell? ⟨g, 8, none⟩ = some (.int .i64 s.grad) ∧ V.cell? ⟨g, 9, none⟩ = some (.int .i64 s.crack) ∧ V.cell? ⟨g, 10, none⟩ = some (.int .i64 s.temp) ∧ V.cell? ⟨g, 11, none⟩ = some (.int .i64 s.depress) ∧ V.cell? ⟨g, 12, none⟩ = some (.int .i64 s.density) ∧ V.cell? ⟨g, 13, none⟩ = some (.int .i64 s.stiff) ∧ V.cell? ⟨g, 14, none⟩ = some (.int .i64 s.knots) ∧ V.cell? ⟨g, 15, none⟩ = some (.int .i64 s.shrink) ∧ V.cell? ⟨g, 19, none⟩ = some (.int .i64 k.stage))
      (with_reducible first | exact S0.out | exact S1.out | exact S4.out | exact kn_Sset (kn_Sset S4.out hgm) hgm | exact kn_Sset S4.out hgm | exact S5.out | exact S6.out)
      (first
        | (go_at_call 38; refine (HTG.out w1.drew (HK1.out.st.more (show g ≤ w1.heap.size by omega))).mono ?_; rintro e w4 ⟨he, hb4⟩; subst he; have hb4' : Below w1.heap.size w1 w4 := ⟨hb4.os, hb4.tape, hb4.output, hb4.size, hb4.block⟩; have REL := Lib.hid (tg_B (T := T) hb4'); have S4 := Lib.hid (SK.out w4 (HK1.out.below hb4')); have S5 := Lib.hid (SK.out (w4.alloc (.cells #[.int .i64 0, .int .i64 0] 42)) ((HK1.out.below hb4').alloc _)); have S6 := Lib.hid (SK.out (w4.alloc (.cells #[.int .i64 T.temp, .int .i64 T.dep] 42)) ((HK1.out.below hb4').alloc _)); clear hb4 hb4')
        | (go_at_call 38; refine (HTG.out (w1.alloc (.cells #[.int .i64 0, .int .i64 0] 42)).drew ((HK1.out.alloc _).st.more (by rw [show (w1.alloc (.cells #[.int .i64 0, .int .i64 0] 42)).drew.heap.size = w1.heap.size + 1 from World.size_alloc _ _]; omega))).mono ?_; rintro e w4 ⟨he, hb4⟩; subst he; have REL := Lib.hid (tg_A (T := T) hb4); have S4 := Lib.hid (SK.out w4 ((HK1.out.alloc _).drew.below hb4)); obtain ⟨z0, z1⟩ := cm_cells ((hb4.block w1.heap.size (by rw [show (w1.alloc (.cells #[.int .i64 0, .int .i64 0] 42)).drew.heap.size = w1.heap.size + 1 from World.size_alloc _ _]; omega)).trans (show (w1.alloc (cmO ⟨0, 0⟩)).drew.heap[w1.heap.size]? = some (cmO ⟨0, 0⟩) from heap_alloc_last w1 _)); obtain ⟨zf0, zf1⟩ := cm_frz ((hb4.block w1.heap.size (by rw [show (w1.alloc (.cells #[.int .i64 0, .int .i64 0] 42)).drew.heap.size = w1.heap.size + 1 from World.size_alloc _ _]; omega)).trans (show (w1.alloc (cmO ⟨0, 0⟩)).drew.heap[w1.heap.size]? = some (cmO ⟨0, 0⟩) from heap_alloc_last w1 _)); clear hb4))
    all_goals
      simp only [Exit.then]
      go_step
      go_meet
      case rel =>
        first
          | exact ⟨w1.heap.size, rfl, REL.out.1, REL.out.2, Nat.le_refl _⟩
          | exact ⟨w4.heap.size, rfl, REL.out.1, REL.out.2.1, REL.out.2.2⟩
  case rest =>
    obtain ⟨m, rfl, hm, hbc, hmw⟩ := hcut
    have HK2 := Lib.hid (HK1.out.below hbc)
    have HM := Lib.hid hm
    have HG2 := Lib.hid (gbt_below (gbt_below (gbt_refl (g := g) W) HB1.out) hbc)
    have HFL2 := Lib.hid (HFL.out.next (w' := wc) (HB1.out.trans (hbc.mono (by have := HB1.out.size; omega))))
    have HV2 := Lib.hid (HV.out.next (w' := wc) (HB1.out.trans (hbc.mono (by have := HB1.out.size; omega))))
    have hmg : g < m := by omega
    have hgc : g < wc.heap.size := HK2.out.sz
    clear hm hbc hmw HTG SK
    obtain ⟨C, hC⟩ : ∃ C, stepCm sc s k fl = C := ⟨_, rfl⟩
    have HC := Lib.hid hC
    have hCT : nextCm k.cm T sc.ramp fl = C := by rw [← hC, ← HT.out]; rfl
    have hCin := nextCm_in (c := k.cm) (t := T) (ramp := sc.ramp) (fl := fl) (tx := s.temp) (dx := s.depress) HSS.out.temp HSS.out.dep HOK.out.temp.2 HOK.out.dep.2 (by rw [← HT.out]; exact (targetP_in' sc k.stage s.temp s.depress (by have := HSS.out.temp; omega) (by have := HSS.out.dep; omega)).1) (by rw [← HT.out]; exact (targetP_in' sc k.stage s.temp s.depress (by have := HSS.out.temp; omega) (by have := HSS.out.dep; omega)).2)
    rw [hCT] at hCin
    have HCA := Lib.hid (show airOk C from ⟨hCin.1, by have := HSS.out.temp; omega, hCin.2.2.1, by have := HSS.out.dep; omega⟩)
    have D1 : Hid (∀ d os, Calls Tryd.prog 39 #[.agg #[.int .i64 k.cm.temp, .int .i64 k.cm.dep], .agg #[.int .i64 T.temp, .int .i64 T.dep], .int .i64 sc.ramp, v] (grow (redrawn wc d) os) fun e w' => e = .returned (.agg #[.int .i64 C.temp, .int .i64 C.dep]) ∧ Below (grow (redrawn wc d) os).heap.size (grow (redrawn wc d) os) w') := Lib.hid (fun d os => by rw [← hCT]; exact next_any k.cm T sc.ramp fl v _ (HFL2.out.next (below_regrown wc d os)))
    have y0 := cell_regrown (HK2.out.cell (j := 17) rfl)
    have y1 := cell_regrown (HK2.out.cell (j := 18) rfl)
    have y2 := cell_regrown (HK2.out.cell (j := 1) rfl)
    have y3 := cell_regrown (cm_cells HM.out).1
    have y4 := cell_regrown (cm_cells HM.out).2
    clear hC hCT hCin
    go_wp2_with fail
    refine wp_region_below_tail 15 (by kernel_rfl) (by kernel_rfl) ?_
    simp only [List.take_succ_cons, List.take_zero, List.drop_succ_cons, List.drop_zero]
    repeat (first
      | (open Go.BigFrame in go_big_quiet_step ((with_reducible exact Calls.regrown_of (D1.out _ _))))
      | (quiet_step ((with_reducible exact Calls.regrown_of (D1.out _ _)))))
    refine wpQuiet_nil ?_
    intro w5 hb5
    have HK5 := Lib.hid (HK2.out.below hb5)
    have q17 := HK5.out.cell (j := 17) rfl
    have q18 := HK5.out.cell (j := 18) rfl
    have f17 := HK5.out.fz 17
    have f18 := HK5.out.fz 18
    have HK6 := Lib.hid ((HK5.out.set 17 (.int .i64 C.temp) { k with cm := ⟨C.temp, k.cm.dep⟩ } rfl rfl).set 18 (.int .i64 C.dep) { k with cm := C } rfl rfl)
    have HG6 := Lib.hid (gbt_set (gbt_set (gbt_below HG2.out hb5) 17 (.int .i64 C.temp)) 18 (.int .i64 C.dep))
    have HFL5 := Lib.hid (HFL2.out.next hb5)
    have HV5 := Lib.hid (HV2.out.next hb5)
    clear hb5 y0 y1 y2 y3 y4
    go_upto_region 5 with fail
    obtain ⟨W6, hW6⟩ : ∃ W6, (w5.setCell ⟨g, 17, none⟩ (.int .i64 C.temp)).setCell ⟨g, 18, none⟩ (.int .i64 C.dep) = W6 := ⟨_, rfl⟩
    have hsz6 : W6.heap.size = w5.heap.size := by rw [← hW6]; simp [World.setCell]
    have HFL6 := Lib.hid (show RdI W6 W6.heap.size v fl by rw [hsz6, ← hW6]; exact rd_setO (rd_setO HFL5.out HFG.out) HFG.out)
    have HV6 := Lib.hid (show VarsK W6 by rw [← hW6]; exact vars_set (vars_set HV5.out (by omega)) (by omega))
    rw [hW6] at HK6 HG6 ⊢
    clear hW6 hsz6 q17 q18 f17 f18
    go_wp2_with fail
    refine (still_any fl v W6 HFL6.out HV6.out).mono ?_
    rintro e w7 ⟨he, hw⟩
    obtain ⟨F, hF⟩ : ∃ F, fl.contains 2 = F := ⟨_, rfl⟩
    rw [hF] at he
    subst he
    rw [hw]
    have HF := Lib.hid hF
    clear hw hF
    cases F with
    | true =>
      go_wp2_with fail
      refine (dried_any W6 g sc s _ _ _ false HK6.out HSS.out.sp HCA.out HOK.out.items HOK.out.len).mono ?_
      rintro e w8 ⟨A8, c8, rfl, ho, hb⟩
      have HO8 := Lib.hid ho
      have HK8 := Lib.hid (HK6.out.below hb)
      have HB8 := Lib.hid hb
      clear ho hb
      have HG8 := Lib.hid (gbt_below HG6.out HB8.out)
      have HST := Lib.hid (step_still HC.out HF.out)
      have HIO := Lib.hid (driedP_ok (s := s) (a := C) (fan := false) HOK.out.items)
      have HLN := Lib.hid (show 0 < (driedP s C false k.items).length ∧ (driedP s C false k.items).length ≤ 1024 by rw [driedP_len]; exact HOK.out.len)
      obtain ⟨its, hits⟩ : ∃ its, driedP s C false k.items = its := ⟨_, rfl⟩
      rw [show driedP s ({ k with cm := C } : Ki).cm false ({ k with cm := C } : Ki).items = its from hits] at HO8 ⊢
      rw [hits] at HST HIO HLN
      have HR8 := Lib.hid (show RdIt w8 w8.heap.size (.slice A8 its.length c8) its from Rd.of_own HO8.out)
      have HN8 := Lib.hid (own_ne HO8.out (g := g) HK6.out.sz)
      have HNN := Lib.hid (fun (m : Nat) (hm : m < W.heap.size) => own_ne HO8.out (g := m) (Nat.lt_of_lt_of_le hm HG6.out.size))
      clear hits
      have htk0 := HOK.out.inStage
      have htk1 := HOK.out.held
      have q16 := HK8.out.cell (j := 16) rfl
      have f16 := HK8.out.fz 16
      have HKa := Lib.hid (HK8.out.setIt HR8.out HN8.out)
      have HGa := Lib.hid (gbt_set HG8.out 16 (.slice A8 its.length c8))
      go_upto_region 11 with fail
      obtain ⟨Wa, hWa⟩ : ∃ Wa, w8.setCell ⟨g, 16, none⟩ (.slice A8 its.length c8) = Wa := ⟨_, rfl⟩
      rw [hWa] at HKa HGa ⊢
      have q21 := HKa.out.cell (j := 21) rfl
      have f21 := HKa.out.fz 21
      have HKb := Lib.hid (HKa.out.set 21 (.int .i64 (k.ticks + 1)) ⟨its, C, k.stage, k.inStage, k.ticks + 1, k.held⟩ rfl rfl)
      have HGb := Lib.hid (gbt_set HGa.out 21 (.int .i64 (k.ticks + 1)))
      clear hWa q16 f16
      go_upto_region 12 with fail
      obtain ⟨Wb, hWb⟩ : ∃ Wb, Wa.setCell ⟨g, 21, none⟩ (.int .i64 (k.ticks + 1)) = Wb := ⟨_, rfl⟩
      rw [hWb] at HKb HGb ⊢
      have q20 := HKb.out.cell (j := 20) rfl
      have f20 := HKb.out.fz 20
      have HKc := Lib.hid (HKb.out.set 20 (.int .i64 (k.inStage + 1)) ⟨its, C, k.stage, k.inStage + 1, k.ticks + 1, k.held⟩ rfl rfl)
      have HGc := Lib.hid (gbt_set HGb.out 20 (.int .i64 (k.inStage + 1)))
      clear hWb q21 f21
      go_upto_region 13 with fail
      obtain ⟨Wc, hWc⟩ : ∃ Wc, Wb.setCell ⟨g, 20, none⟩ (.int .i64 (k.inStage + 1)) = Wc := ⟨_, rfl⟩
      rw [hWc] at HKc HGc ⊢
      clear hWc q20 f20
      obtain ⟨M, hM⟩ : ∃ M, meanP its = M := ⟨_, rfl⟩
      obtain ⟨e1, e2, hE⟩ : ∃ e1 e2, endsSc sc k.stage (k.inStage + 1) M = (e1, e2) := ⟨_, _, rfl⟩
      have HM2 := Lib.hid hM
      have HE := Lib.hid hE
      have y0 := cell_regrown (HKc.out.cell (j := 0) rfl)
      have y1 := cell_regrown (HKc.out.cell (j := 1) rfl)
      have y2 := cell_regrown (HKc.out.cell (j := 2) rfl)
      have y3 := cell_regrown (HKc.out.cell (j := 19) rfl)
      have y4 := cell_regrown (HKc.out.cell (j := 20) rfl)
      have D2 : Hid (∀ d os, Calls Tryd.prog 44 #[.pointer (some ⟨g, 0, none⟩)] (grow (redrawn Wc d) os) fun e w' => e = .returned (.int .i64 M) ∧ Below (grow (redrawn Wc d) os).heap.size (grow (redrawn Wc d) os) w') := Lib.hid (fun d os => by rw [← hM]; exact mean_any _ g sc s _ _ _ (HKc.out.below (below_regrown Wc d os)) HLN.out HIO.out)
      have D3 : Hid (∀ d os, Calls Tryd.prog 43 #[.agg #[.string (str sc.name), .int .i64 sc.ramp, .slice A sc.stages.length c], .int .i64 k.stage, .int .i64 (k.inStage + 1), .int .i64 M] (grow (redrawn Wc d) os) fun e w' => e = .returned (.tuple #[.int .i64 e1, .bool e2]) ∧ Below (grow (redrawn Wc d) os).heap.size (grow (redrawn Wc d) os) w') := Lib.hid (fun d os => by
        have h9 := ends_any sc A c k.stage (k.inStage + 1) M _ ((HKc.out.below (below_regrown Wc d os)).st.more (Nat.le_of_lt (HKc.out.below (below_regrown Wc d os)).sz))
        rw [hE] at h9
        exact h9)
      clear hM hE
      refine wp_region_quiet_below (by kernel_rfl) (by kernel_rfl) ?_
      repeat (first
        | (open Go.BigFrame in go_big_quiet_step ((first | (with_reducible exact Calls.regrown_of (D2.out _ _)) | (with_reducible exact Calls.regrown_of (D3.out _ _)))))
        | (quiet_step ((first | (with_reducible exact Calls.regrown_of (D2.out _ _)) | (with_reducible exact Calls.regrown_of (D3.out _ _))))))
      refine wpQuiet_nil ?_
      rintro wd ⟨pd, hwd⟩
      have hbd : Below Wc.heap.size Wc wd := by rw [hwd]; exact below_regrown _ _ _
      have HKd := Lib.hid (HKc.out.below hbd)
      have HGd := Lib.hid (gbt_below HGc.out hbd)
      clear y0 y1 y2 y3 y4 hwd hbd D2 D3
      cases e2 with
      | false =>
        go_wp2_with fail
        refine (done_any wd g sc s _ _ _ HKd.out).mono ?_
        rintro e wf ⟨he, nf, hwf⟩
        obtain ⟨bf, hbf⟩ : ∃ bf, decide (k.stage = (sc.stages.length : Int)) = bf := ⟨_, rfl⟩
        have he : e = .returned (.bool bf) := by rw [he]; exact congrArg _ (congrArg _ hbf)
        subst he
        have HKf := Lib.hid (show KnAt wf g sc s (.slice A sc.stages.length c) _ ⟨its, C, k.stage, k.inStage + 1, k.ticks + 1, k.held⟩ by rw [hwf]; exact HKd.out.drewN nf)
        have HGf := Lib.hid (show W.grownBy wf (some g) by rw [hwf]; exact gbt_drewN HGd.out nf)
        have HQ := Lib.hid (show stepK sc s k fl = ⟨its, C, k.stage, k.inStage + 1, k.ticks + 1, k.held⟩ by rw [HST.out, HM2.out, HE.out]; rfl)
        clear hbf hwf
        go_wp2_with fail
        go_ret
        exact ⟨⟨_, rfl⟩, HGf.out, _, by rw [HQ.out]; exact HKf.out, HNN.out⟩
      | true =>
        have q19 := HKd.out.cell (j := 19) rfl
        have q20 := HKd.out.cell (j := 20) rfl
        have f19 := HKd.out.fz 19
        have f20 := HKd.out.fz 20
        have HKe := Lib.hid ((HKd.out.set 19 (.int .i64 e1) ⟨its, C, e1, k.inStage + 1, k.ticks + 1, k.held⟩ rfl rfl).set 20 (.int .i64 0) ⟨its, C, e1, 0, k.ticks + 1, k.held⟩ rfl rfl)
        have HGe := Lib.hid (gbt_set (gbt_set HGd.out 19 (.int .i64 e1)) 20 (.int .i64 0))
        go_upto_region 16 with fail
        obtain ⟨We, hWe⟩ : ∃ We, (wd.setCell ⟨g, 19, none⟩ (.int .i64 e1)).setCell ⟨g, 20, none⟩ (.int .i64 0) = We := ⟨_, rfl⟩
        rw [hWe] at HKe HGe ⊢
        clear hWe q19 q20 f19 f20
        go_wp2_with fail
        refine (done_any We g sc s _ _ _ HKe.out).mono ?_
        rintro e wf ⟨he, nf, hwf⟩
        obtain ⟨bf, hbf⟩ : ∃ bf, decide (e1 = (sc.stages.length : Int)) = bf := ⟨_, rfl⟩
        have he : e = .returned (.bool bf) := by rw [he]; exact congrArg _ (congrArg _ hbf)
        subst he
        have HKf := Lib.hid (show KnAt wf g sc s (.slice A sc.stages.length c) _ ⟨its, C, e1, 0, k.ticks + 1, k.held⟩ by rw [hwf]; exact HKe.out.drewN nf)
        have HGf := Lib.hid (show W.grownBy wf (some g) by rw [hwf]; exact gbt_drewN HGe.out nf)
        have HQ := Lib.hid (show stepK sc s k fl = ⟨its, C, e1, 0, k.ticks + 1, k.held⟩ by rw [HST.out, HM2.out, HE.out]; rfl)
        clear hbf hwf
        go_wp2_with fail
        go_ret
        exact ⟨⟨_, rfl⟩, HGf.out, _, by rw [HQ.out]; exact HKf.out, HNN.out⟩
      
    | false =>
      go_wp2_with fail
      refine (dried_any W6 g sc s _ _ _ true HK6.out HSS.out.sp HCA.out HOK.out.items HOK.out.len).mono ?_
      rintro e w8 ⟨A8, c8, rfl, ho, hb⟩
      have HO8 := Lib.hid ho
      have HK8 := Lib.hid (HK6.out.below hb)
      have HB8 := Lib.hid hb
      clear ho hb
      go_wp2_with fail
      have hlen8 := driedP_len s C true k.items
      refine (steep_any w8 g sc s _ _ _ (driedP s C true k.items) A8 c8 HK8.out (Rd.of_own HO8.out) hlen8).mono ?_
      rintro e w9 ⟨he, hb9⟩
      obtain ⟨b, hb⟩ : ∃ b, steepP s (driedP s C true k.items) k.items = b := ⟨_, rfl⟩
      have he : e = .returned (.bool b) := by rw [he]; exact congrArg _ (congrArg _ hb)
      subst he
      have HBB := Lib.hid hb
      have HK9 := Lib.hid (HK8.out.below hb9)
      have HB9 := Lib.hid hb9
      clear hb hb9 hlen8
      cases b with
      | false =>
        have HG9 := Lib.hid (gbt_below (gbt_below HG6.out HB8.out) HB9.out)
        have HST := Lib.hid (step_fan HC.out HF.out HBB.out)
        have hsz8 : W6.heap.size ≤ w8.heap.size := HB8.out.size
        have HIO := Lib.hid (driedP_ok (s := s) (a := C) (fan := true) HOK.out.items)
        have HLN := Lib.hid (show 0 < (driedP s C true k.items).length ∧ (driedP s C true k.items).length ≤ 1024 by rw [driedP_len]; exact HOK.out.len)
        obtain ⟨its, hits⟩ : ∃ its, driedP s C true k.items = its := ⟨_, rfl⟩
        rw [show driedP s ({ k with cm := C } : Ki).cm true ({ k with cm := C } : Ki).items = its from hits] at HO8 ⊢
        rw [hits] at HST HIO HLN
        have HR8 := Lib.hid (show RdIt w8 w8.heap.size (.slice A8 its.length c8) its from Rd.of_own HO8.out)
        have HN8 := Lib.hid (own_ne HO8.out (g := g) HK6.out.sz)
        have HNN := Lib.hid (fun (m : Nat) (hm : m < W.heap.size) => own_ne HO8.out (g := m) (Nat.lt_of_lt_of_le hm HG6.out.size))
        clear hits
        have htk0 := HOK.out.inStage
        have htk1 := HOK.out.held
        have HR9 := Lib.hid (show RdIt w9 w9.heap.size (.slice A8 its.length c8) its from HR8.out.next HB9.out)
        have q16 := HK9.out.cell (j := 16) rfl
        have f16 := HK9.out.fz 16
        have HKa := Lib.hid (HK9.out.setIt HR9.out HN8.out)
        have HGa := Lib.hid (gbt_set HG9.out 16 (.slice A8 its.length c8))
        go_upto_region 11 with fail
        obtain ⟨Wa, hWa⟩ : ∃ Wa, w9.setCell ⟨g, 16, none⟩ (.slice A8 its.length c8) = Wa := ⟨_, rfl⟩
        rw [hWa] at HKa HGa ⊢
        have q21 := HKa.out.cell (j := 21) rfl
        have f21 := HKa.out.fz 21
        have HKb := Lib.hid (HKa.out.set 21 (.int .i64 (k.ticks + 1)) ⟨its, C, k.stage, k.inStage, k.ticks + 1, k.held⟩ rfl rfl)
        have HGb := Lib.hid (gbt_set HGa.out 21 (.int .i64 (k.ticks + 1)))
        clear hWa q16 f16
        go_upto_region 12 with fail
        obtain ⟨Wb, hWb⟩ : ∃ Wb, Wa.setCell ⟨g, 21, none⟩ (.int .i64 (k.ticks + 1)) = Wb := ⟨_, rfl⟩
        rw [hWb] at HKb HGb ⊢
        have q20 := HKb.out.cell (j := 20) rfl
        have f20 := HKb.out.fz 20
        have HKc := Lib.hid (HKb.out.set 20 (.int .i64 (k.inStage + 1)) ⟨its, C, k.stage, k.inStage + 1, k.ticks + 1, k.held⟩ rfl rfl)
        have HGc := Lib.hid (gbt_set HGb.out 20 (.int .i64 (k.inStage + 1)))
        clear hWb q21 f21
        go_upto_region 13 with fail
        obtain ⟨Wc, hWc⟩ : ∃ Wc, Wb.setCell ⟨g, 20, none⟩ (.int .i64 (k.inStage + 1)) = Wc := ⟨_, rfl⟩
        rw [hWc] at HKc HGc ⊢
        clear hWc q20 f20
        obtain ⟨M, hM⟩ : ∃ M, meanP its = M := ⟨_, rfl⟩
        obtain ⟨e1, e2, hE⟩ : ∃ e1 e2, endsSc sc k.stage (k.inStage + 1) M = (e1, e2) := ⟨_, _, rfl⟩
        have HM2 := Lib.hid hM
        have HE := Lib.hid hE
        have y0 := cell_regrown (HKc.out.cell (j := 0) rfl)
        have y1 := cell_regrown (HKc.out.cell (j := 1) rfl)
        have y2 := cell_regrown (HKc.out.cell (j := 2) rfl)
        have y3 := cell_regrown (HKc.out.cell (j := 19) rfl)
        have y4 := cell_regrown (HKc.out.cell (j := 20) rfl)
        have D2 : Hid (∀ d os, Calls Tryd.prog 44 #[.pointer (some ⟨g, 0, none⟩)] (grow (redrawn Wc d) os) fun e w' => e = .returned (.int .i64 M) ∧ Below (grow (redrawn Wc d) os).heap.size (grow (redrawn Wc d) os) w') := Lib.hid (fun d os => by rw [← hM]; exact mean_any _ g sc s _ _ _ (HKc.out.below (below_regrown Wc d os)) HLN.out HIO.out)
        have D3 : Hid (∀ d os, Calls Tryd.prog 43 #[.agg #[.string (str sc.name), .int .i64 sc.ramp, .slice A sc.stages.length c], .int .i64 k.stage, .int .i64 (k.inStage + 1), .int .i64 M] (grow (redrawn Wc d) os) fun e w' => e = .returned (.tuple #[.int .i64 e1, .bool e2]) ∧ Below (grow (redrawn Wc d) os).heap.size (grow (redrawn Wc d) os) w') := Lib.hid (fun d os => by
          have h9 := ends_any sc A c k.stage (k.inStage + 1) M _ ((HKc.out.below (below_regrown Wc d os)).st.more (Nat.le_of_lt (HKc.out.below (below_regrown Wc d os)).sz))
          rw [hE] at h9
          exact h9)
        clear hM hE
        refine wp_region_quiet_below (by kernel_rfl) (by kernel_rfl) ?_
        repeat (first
          | (open Go.BigFrame in go_big_quiet_step ((first | (with_reducible exact Calls.regrown_of (D2.out _ _)) | (with_reducible exact Calls.regrown_of (D3.out _ _)))))
          | (quiet_step ((first | (with_reducible exact Calls.regrown_of (D2.out _ _)) | (with_reducible exact Calls.regrown_of (D3.out _ _))))))
        refine wpQuiet_nil ?_
        rintro wd ⟨pd, hwd⟩
        have hbd : Below Wc.heap.size Wc wd := by rw [hwd]; exact below_regrown _ _ _
        have HKd := Lib.hid (HKc.out.below hbd)
        have HGd := Lib.hid (gbt_below HGc.out hbd)
        clear y0 y1 y2 y3 y4 hwd hbd D2 D3
        cases e2 with
        | false =>
          go_wp2_with fail
          refine (done_any wd g sc s _ _ _ HKd.out).mono ?_
          rintro e wf ⟨he, nf, hwf⟩
          obtain ⟨bf, hbf⟩ : ∃ bf, decide (k.stage = (sc.stages.length : Int)) = bf := ⟨_, rfl⟩
          have he : e = .returned (.bool bf) := by rw [he]; exact congrArg _ (congrArg _ hbf)
          subst he
          have HKf := Lib.hid (show KnAt wf g sc s (.slice A sc.stages.length c) _ ⟨its, C, k.stage, k.inStage + 1, k.ticks + 1, k.held⟩ by rw [hwf]; exact HKd.out.drewN nf)
          have HGf := Lib.hid (show W.grownBy wf (some g) by rw [hwf]; exact gbt_drewN HGd.out nf)
          have HQ := Lib.hid (show stepK sc s k fl = ⟨its, C, k.stage, k.inStage + 1, k.ticks + 1, k.held⟩ by rw [HST.out, HM2.out, HE.out]; rfl)
          clear hbf hwf
          go_wp2_with fail
          go_ret
          exact ⟨⟨_, rfl⟩, HGf.out, _, by rw [HQ.out]; exact HKf.out, HNN.out⟩
        | true =>
          have q19 := HKd.out.cell (j := 19) rfl
          have q20 := HKd.out.cell (j := 20) rfl
          have f19 := HKd.out.fz 19
          have f20 := HKd.out.fz 20
          have HKe := Lib.hid ((HKd.out.set 19 (.int .i64 e1) ⟨its, C, e1, k.inStage + 1, k.ticks + 1, k.held⟩ rfl rfl).set 20 (.int .i64 0) ⟨its, C, e1, 0, k.ticks + 1, k.held⟩ rfl rfl)
          have HGe := Lib.hid (gbt_set (gbt_set HGd.out 19 (.int .i64 e1)) 20 (.int .i64 0))
          go_upto_region 16 with fail
          obtain ⟨We, hWe⟩ : ∃ We, (wd.setCell ⟨g, 19, none⟩ (.int .i64 e1)).setCell ⟨g, 20, none⟩ (.int .i64 0) = We := ⟨_, rfl⟩
          rw [hWe] at HKe HGe ⊢
          clear hWe q19 q20 f19 f20
          go_wp2_with fail
          refine (done_any We g sc s _ _ _ HKe.out).mono ?_
          rintro e wf ⟨he, nf, hwf⟩
          obtain ⟨bf, hbf⟩ : ∃ bf, decide (e1 = (sc.stages.length : Int)) = bf := ⟨_, rfl⟩
          have he : e = .returned (.bool bf) := by rw [he]; exact congrArg _ (congrArg _ hbf)
          subst he
          have HKf := Lib.hid (show KnAt wf g sc s (.slice A sc.stages.length c) _ ⟨its, C, e1, 0, k.ticks + 1, k.held⟩ by rw [hwf]; exact HKe.out.drewN nf)
          have HGf := Lib.hid (show W.grownBy wf (some g) by rw [hwf]; exact gbt_drewN HGe.out nf)
          have HQ := Lib.hid (show stepK sc s k fl = ⟨its, C, e1, 0, k.ticks + 1, k.held⟩ by rw [HST.out, HM2.out, HE.out]; rfl)
          clear hbf hwf
          go_wp2_with fail
          go_ret
          exact ⟨⟨_, rfl⟩, HGf.out, _, by rw [HQ.out]; exact HKf.out, HNN.out⟩
        
      | true =>
        go_wp2_with fail
        refine (dried_any w9 g sc s _ _ _ false HK9.out HSS.out.sp HCA.out HOK.out.items HOK.out.len).mono ?_
        rintro e w10 ⟨A10, c10, rfl, ho, hb⟩
        have HO10 := Lib.hid ho
        have HK10 := Lib.hid (HK9.out.below hb)
        have HB10 := Lib.hid hb
        clear ho hb
        have HG10 := Lib.hid (gbt_below (gbt_below (gbt_below HG6.out HB8.out) HB9.out) HB10.out)
        have HST := Lib.hid (step_hold HC.out HF.out HBB.out)
        have HIO := Lib.hid (driedP_ok (s := s) (a := C) (fan := false) HOK.out.items)
        have HLN := Lib.hid (show 0 < (driedP s C false k.items).length ∧ (driedP s C false k.items).length ≤ 1024 by rw [driedP_len]; exact HOK.out.len)
        obtain ⟨its, hits⟩ : ∃ its, driedP s C false k.items = its := ⟨_, rfl⟩
        rw [show driedP s ({ k with cm := C } : Ki).cm false ({ k with cm := C } : Ki).items = its from hits] at HO10 ⊢
        rw [hits] at HST HIO HLN
        have HR10 := Lib.hid (show RdIt w10 w10.heap.size (.slice A10 its.length c10) its from Rd.of_own HO10.out)
        have HN10 := Lib.hid (own_ne HO10.out (g := g) HK9.out.sz)
        have HNN := Lib.hid (fun (m : Nat) (hm : m < W.heap.size) => own_ne HO10.out (g := m) (Nat.lt_of_lt_of_le hm (Nat.le_trans HG6.out.size (Nat.le_trans HB8.out.size HB9.out.size))))
        clear hits
        have htk0 := HOK.out.inStage
        have htk1 := HOK.out.held
        have q22 := HK10.out.cell (j := 22) rfl
        have f22 := HK10.out.fz 22
        have HK11 := Lib.hid (HK10.out.set 22 (.int .i64 (k.held + 1)) ⟨k.items, C, k.stage, k.inStage, k.ticks, k.held + 1⟩ rfl rfl)
        have HG11 := Lib.hid (gbt_set HG10.out 22 (.int .i64 (k.held + 1)))
        go_upto_region 10 with fail
        obtain ⟨W11, hW11⟩ : ∃ W11, w10.setCell ⟨g, 22, none⟩ (.int .i64 (k.held + 1)) = W11 := ⟨_, rfl⟩
        have HR11 := Lib.hid (show RdIt W11 W11.heap.size (.slice A10 its.length c10) its by rw [← hW11, show (w10.setCell ⟨g, 22, none⟩ (.int .i64 (k.held + 1))).heap.size = w10.heap.size by simp [World.setCell]]; exact rd_setO HR10.out HN10.out)
        rw [hW11] at HK11 HG11 ⊢
        clear hW11 q22 f22
        have q16 := HK11.out.cell (j := 16) rfl
        have f16 := HK11.out.fz 16
        have HKa := Lib.hid (HK11.out.setIt HR11.out HN10.out)
        have HGa := Lib.hid (gbt_set HG11.out 16 (.slice A10 its.length c10))
        go_upto_region 11 with fail
        obtain ⟨Wa, hWa⟩ : ∃ Wa, W11.setCell ⟨g, 16, none⟩ (.slice A10 its.length c10) = Wa := ⟨_, rfl⟩
        rw [hWa] at HKa HGa ⊢
        have q21 := HKa.out.cell (j := 21) rfl
        have f21 := HKa.out.fz 21
        have HKb := Lib.hid (HKa.out.set 21 (.int .i64 (k.ticks + 1)) ⟨its, C, k.stage, k.inStage, k.ticks + 1, k.held + 1⟩ rfl rfl)
        have HGb := Lib.hid (gbt_set HGa.out 21 (.int .i64 (k.ticks + 1)))
        clear hWa q16 f16
        go_upto_region 12 with fail
        obtain ⟨Wb, hWb⟩ : ∃ Wb, Wa.setCell ⟨g, 21, none⟩ (.int .i64 (k.ticks + 1)) = Wb := ⟨_, rfl⟩
        rw [hWb] at HKb HGb ⊢
        have q20 := HKb.out.cell (j := 20) rfl
        have f20 := HKb.out.fz 20
        have HKc := Lib.hid (HKb.out.set 20 (.int .i64 (k.inStage + 1)) ⟨its, C, k.stage, k.inStage + 1, k.ticks + 1, k.held + 1⟩ rfl rfl)
        have HGc := Lib.hid (gbt_set HGb.out 20 (.int .i64 (k.inStage + 1)))
        clear hWb q21 f21
        go_upto_region 13 with fail
        obtain ⟨Wc, hWc⟩ : ∃ Wc, Wb.setCell ⟨g, 20, none⟩ (.int .i64 (k.inStage + 1)) = Wc := ⟨_, rfl⟩
        rw [hWc] at HKc HGc ⊢
        clear hWc q20 f20
        obtain ⟨M, hM⟩ : ∃ M, meanP its = M := ⟨_, rfl⟩
        obtain ⟨e1, e2, hE⟩ : ∃ e1 e2, endsSc sc k.stage (k.inStage + 1) M = (e1, e2) := ⟨_, _, rfl⟩
        have HM2 := Lib.hid hM
        have HE := Lib.hid hE
        have y0 := cell_regrown (HKc.out.cell (j := 0) rfl)
        have y1 := cell_regrown (HKc.out.cell (j := 1) rfl)
        have y2 := cell_regrown (HKc.out.cell (j := 2) rfl)
        have y3 := cell_regrown (HKc.out.cell (j := 19) rfl)
        have y4 := cell_regrown (HKc.out.cell (j := 20) rfl)
        have D2 : Hid (∀ d os, Calls Tryd.prog 44 #[.pointer (some ⟨g, 0, none⟩)] (grow (redrawn Wc d) os) fun e w' => e = .returned (.int .i64 M) ∧ Below (grow (redrawn Wc d) os).heap.size (grow (redrawn Wc d) os) w') := Lib.hid (fun d os => by rw [← hM]; exact mean_any _ g sc s _ _ _ (HKc.out.below (below_regrown Wc d os)) HLN.out HIO.out)
        have D3 : Hid (∀ d os, Calls Tryd.prog 43 #[.agg #[.string (str sc.name), .int .i64 sc.ramp, .slice A sc.stages.length c], .int .i64 k.stage, .int .i64 (k.inStage + 1), .int .i64 M] (grow (redrawn Wc d) os) fun e w' => e = .returned (.tuple #[.int .i64 e1, .bool e2]) ∧ Below (grow (redrawn Wc d) os).heap.size (grow (redrawn Wc d) os) w') := Lib.hid (fun d os => by
          have h9 := ends_any sc A c k.stage (k.inStage + 1) M _ ((HKc.out.below (below_regrown Wc d os)).st.more (Nat.le_of_lt (HKc.out.below (below_regrown Wc d os)).sz))
          rw [hE] at h9
          exact h9)
        clear hM hE
        refine wp_region_quiet_below (by kernel_rfl) (by kernel_rfl) ?_
        repeat (first
          | (open Go.BigFrame in go_big_quiet_step ((first | (with_reducible exact Calls.regrown_of (D2.out _ _)) | (with_reducible exact Calls.regrown_of (D3.out _ _)))))
          | (quiet_step ((first | (with_reducible exact Calls.regrown_of (D2.out _ _)) | (with_reducible exact Calls.regrown_of (D3.out _ _))))))
        refine wpQuiet_nil ?_
        rintro wd ⟨pd, hwd⟩
        have hbd : Below Wc.heap.size Wc wd := by rw [hwd]; exact below_regrown _ _ _
        have HKd := Lib.hid (HKc.out.below hbd)
        have HGd := Lib.hid (gbt_below HGc.out hbd)
        clear y0 y1 y2 y3 y4 hwd hbd D2 D3
        cases e2 with
        | false =>
          go_wp2_with fail
          refine (done_any wd g sc s _ _ _ HKd.out).mono ?_
          rintro e wf ⟨he, nf, hwf⟩
          obtain ⟨bf, hbf⟩ : ∃ bf, decide (k.stage = (sc.stages.length : Int)) = bf := ⟨_, rfl⟩
          have he : e = .returned (.bool bf) := by rw [he]; exact congrArg _ (congrArg _ hbf)
          subst he
          have HKf := Lib.hid (show KnAt wf g sc s (.slice A sc.stages.length c) _ ⟨its, C, k.stage, k.inStage + 1, k.ticks + 1, k.held + 1⟩ by rw [hwf]; exact HKd.out.drewN nf)
          have HGf := Lib.hid (show W.grownBy wf (some g) by rw [hwf]; exact gbt_drewN HGd.out nf)
          have HQ := Lib.hid (show stepK sc s k fl = ⟨its, C, k.stage, k.inStage + 1, k.ticks + 1, k.held + 1⟩ by rw [HST.out, HM2.out, HE.out]; rfl)
          clear hbf hwf
          go_wp2_with fail
          go_ret
          exact ⟨⟨_, rfl⟩, HGf.out, _, by rw [HQ.out]; exact HKf.out, HNN.out⟩
        | true =>
          have q19 := HKd.out.cell (j := 19) rfl
          have q20 := HKd.out.cell (j := 20) rfl
          have f19 := HKd.out.fz 19
          have f20 := HKd.out.fz 20
          have HKe := Lib.hid ((HKd.out.set 19 (.int .i64 e1) ⟨its, C, e1, k.inStage + 1, k.ticks + 1, k.held + 1⟩ rfl rfl).set 20 (.int .i64 0) ⟨its, C, e1, 0, k.ticks + 1, k.held + 1⟩ rfl rfl)
          have HGe := Lib.hid (gbt_set (gbt_set HGd.out 19 (.int .i64 e1)) 20 (.int .i64 0))
          go_upto_region 16 with fail
          obtain ⟨We, hWe⟩ : ∃ We, (wd.setCell ⟨g, 19, none⟩ (.int .i64 e1)).setCell ⟨g, 20, none⟩ (.int .i64 0) = We := ⟨_, rfl⟩
          rw [hWe] at HKe HGe ⊢
          clear hWe q19 q20 f19 f20
          go_wp2_with fail
          refine (done_any We g sc s _ _ _ HKe.out).mono ?_
          rintro e wf ⟨he, nf, hwf⟩
          obtain ⟨bf, hbf⟩ : ∃ bf, decide (e1 = (sc.stages.length : Int)) = bf := ⟨_, rfl⟩
          have he : e = .returned (.bool bf) := by rw [he]; exact congrArg _ (congrArg _ hbf)
          subst he
          have HKf := Lib.hid (show KnAt wf g sc s (.slice A sc.stages.length c) _ ⟨its, C, e1, 0, k.ticks + 1, k.held + 1⟩ by rw [hwf]; exact HKe.out.drewN nf)
          have HGf := Lib.hid (show W.grownBy wf (some g) by rw [hwf]; exact gbt_drewN HGe.out nf)
          have HQ := Lib.hid (show stepK sc s k fl = ⟨its, C, e1, 0, k.ticks + 1, k.held + 1⟩ by rw [HST.out, HM2.out, HE.out]; rfl)
          clear hbf hwf
          go_wp2_with fail
          go_ret
          exact ⟨⟨_, rfl⟩, HGf.out, _, by rw [HQ.out]; exact HKf.out, HNN.out⟩
        
end Go.Proofs.YthineckpociomaaDoor
