/-
  The contract of wood.inRange.
-/
import Derived.Test.YthineckpociomaaDoorWoodA
import Derived.Test.YthineckpociomaaDoorBig
namespace Go.Proofs.YthineckpociomaaDoor
open Go.RowKit Saw

theorem bcellW {W w1 : World} {n : Nat} (hb : Below n W w1) : (∀ b o, b < n → w1.cell? ⟨b, o, none⟩ = W.cell? ⟨b, o, none⟩) ∧ (∀ b o, b < n → w1.frozen? ⟨b, o, none⟩ = W.frozen? ⟨b, o, none⟩) :=
  ⟨fun b o h => hb.cell (p := ⟨b, o, none⟩) h, fun b o h => hb.frozen (p := ⟨b, o, none⟩) h⟩
theorem below_box2 {w w' : World} {o o' : Obj} (hbw : Below (w.heap.size + 1 + 1) ((w.alloc o).alloc o') w') : Below w.heap.size w w' :=
  (((Below.refl _ _).alloc (Nat.le_refl _) _).alloc (by simp) _).trans (hbw.mono (by omega))

theorem range_step (x : Sp) (k : Nat) (n lo hi : Int) (h : (x.nums.zip x.ranges)[k]? = some (n, lo, hi)) {q : Bool}
    (hr : (((x.nums.zip x.ranges).drop k).all fun p => decide (p.2.1 ≤ p.1) && decide (p.1 ≤ p.2.2)) = q) :
    ((decide (lo ≤ n) && decide (n ≤ hi)) && (((x.nums.zip x.ranges).drop (k + 1)).all fun p => decide (p.2.1 ≤ p.1) && decide (p.1 ≤ p.2.2))) = q := by
  have hk := List.getElem?_eq_some_iff.1 h
  rw [List.drop_eq_getElem_cons hk.1, hk.2, List.all_cons] at hr
  exact hr

theorem nums_index (x : Sp) (k : Nat) (hk : k < 12) : ∃ n lo hi : Int, (x.nums.zip x.ranges)[k]? = some (n, lo, hi) ∧ x.nums[k]? = some n ∧ (∀ W, (Instr.index 108 (.agg #[.int .i64 x.green, .int .i64 x.fast, .int .i64 x.slow, .int .i64 x.safe, .int .i64 x.grad, .int .i64 x.crack, .int .i64 x.temp, .int .i64 x.depress, .int .i64 x.density, .int .i64 x.stiff, .int .i64 x.knots, .int .i64 x.shrink]) (.int .i64 k)).run Tryd.prog W = .ok (.int .i64 n) W) ∧
    (#[.int .i64 3000, .int .i64 20000, .int .i64 1, .int .i64 10000, .int .i64 1, .int .i64 x.fast, .int .i64 0, .int .i64 x.grad, .int .i64 1, .int .i64 20000, .int .i64 1, .int .i64 1000000, .int .i64 200, .int .i64 1200, .int .i64 100, .int .i64 400, .int .i64 200, .int .i64 1500, .int .i64 1000, .int .i64 30000, .int .i64 0, .int .i64 1000, .int .i64 0, .int .i64 200] : Array Value)[k * 2]? = some (.int .i64 lo) ∧ (#[.int .i64 3000, .int .i64 20000, .int .i64 1, .int .i64 10000, .int .i64 1, .int .i64 x.fast, .int .i64 0, .int .i64 x.grad, .int .i64 1, .int .i64 20000, .int .i64 1, .int .i64 1000000, .int .i64 200, .int .i64 1200, .int .i64 100, .int .i64 400, .int .i64 200, .int .i64 1500, .int .i64 1000, .int .i64 30000, .int .i64 0, .int .i64 1000, .int .i64 0, .int .i64 200] : Array Value)[k * 2 + 1]? = some (.int .i64 hi) := by
  match k, hk with
  | 0, _ => exact ⟨_, _, _, rfl, rfl, fun _ => by kernel_rfl, rfl, rfl⟩
  | 1, _ => exact ⟨_, _, _, rfl, rfl, fun _ => by kernel_rfl, rfl, rfl⟩
  | 2, _ => exact ⟨_, _, _, rfl, rfl, fun _ => by kernel_rfl, rfl, rfl⟩
  | 3, _ => exact ⟨_, _, _, rfl, rfl, fun _ => by kernel_rfl, rfl, rfl⟩
  | 4, _ => exact ⟨_, _, _, rfl, rfl, fun _ => by kernel_rfl, rfl, rfl⟩
  | 5, _ => exact ⟨_, _, _, rfl, rfl, fun _ => by kernel_rfl, rfl, rfl⟩
  | 6, _ => exact ⟨_, _, _, rfl, rfl, fun _ => by kernel_rfl, rfl, rfl⟩
  | 7, _ => exact ⟨_, _, _, rfl, rfl, fun _ => by kernel_rfl, rfl, rfl⟩
  | 8, _ => exact ⟨_, _, _, rfl, rfl, fun _ => by kernel_rfl, rfl, rfl⟩
  | 9, _ => exact ⟨_, _, _, rfl, rfl, fun _ => by kernel_rfl, rfl, rfl⟩
  | 10, _ => exact ⟨_, _, _, rfl, rfl, fun _ => by kernel_rfl, rfl, rfl⟩
  | 11, _ => exact ⟨_, _, _, rfl, rfl, fun _ => by kernel_rfl, rfl, rfl⟩

set_option maxRecDepth 100000 in
set_option maxHeartbeats 1000000 in
theorem inRange_any (x : Sp) (w : World) :
    Calls Tryd.prog 35 #[.agg #[.string (str x.name), .int .i64 x.green, .int .i64 x.fast, .int .i64 x.slow, .int .i64 x.safe, .int .i64 x.grad, .int .i64 x.crack, .int .i64 x.temp, .int .i64 x.depress, .int .i64 x.density, .int .i64 x.stiff, .int .i64 x.knots, .int .i64 x.shrink]] w fun e w' => e = .returned (.bool (inRangeP x)) ∧ Below w.heap.size w w' := by
  obtain ⟨q, hq⟩ : ∃ q, inRangeP x = q := ⟨_, rfl⟩
  rw [hq]
  have HQ := Lib.hid hq
  clear hq
  go_enter Tryd.func35, Tryd.ntmps35
  go_wp2_with (first
    | ((with_reducible refine wpList_allocAs (t := 107) (#[.int .i64 0, .int .i64 0, .int .i64 0, .int .i64 0, .int .i64 0, .int .i64 0, .int .i64 0, .int .i64 0, .int .i64 0, .int .i64 0, .int .i64 0, .int .i64 0, .int .i64 0, .int .i64 0, .int .i64 0, .int .i64 0, .int .i64 0, .int .i64 0, .int .i64 0, .int .i64 0, .int .i64 0, .int .i64 0, .int .i64 0, .int .i64 0]) ?hf ?_); (case hf => kernel_rfl); intro c hc; have HC := Lib.hid hc; clear hc)
    | ((with_reducible refine wpList_storeNew (N := ?N) (c' := ?c') ?hx ?hN ?hy ?hi ?hs ?h1 ?_); (case hx => rfl); (case hN => (simp only [World.size_alloc])); (case hy => rfl); (case hi => kernel_rfl); (case hs => (rw [HC.out]; rfl)); (case h1 => rfl); clear HC))
  refine (numbers_any x _).mono ?_
  rintro e w1 ⟨rfl, hbw⟩
  simp only [World.size_alloc] at hbw
  have HBW := Lib.hid (below_box2 hbw)
  obtain ⟨hcl, _⟩ := bcellW hbw
  have hcell : ∀ o, w1.cell? ⟨w.heap.size + 1, o, none⟩ = (#[.int .i64 3000, .int .i64 20000, .int .i64 1, .int .i64 10000, .int .i64 1, .int .i64 x.fast, .int .i64 0, .int .i64 x.grad, .int .i64 1, .int .i64 20000, .int .i64 1, .int .i64 1000000, .int .i64 200, .int .i64 1200, .int .i64 100, .int .i64 400, .int .i64 200, .int .i64 1500, .int .i64 1000, .int .i64 30000, .int .i64 0, .int .i64 1000, .int .i64 0, .int .i64 200] : Array Value)[o]? := fun o => by
    rw [hcl _ _ (by omega)]
    rw [World.cell?_alloc_at _ _ _ _ (by rw [World.size_alloc])]
  have HCELL := Lib.hid hcell
  clear hcell hcl hbw
  go_wp2_with fail
  go_loop [25] (fun i => ∃ k : Nat, k ≤ 12 ∧ i = .int .i64 k ∧ (((x.nums.zip x.ranges).drop k).all fun p => decide (p.2.1 ≤ p.1) && decide (p.1 ≤ p.2.2)) = q) (fun i => 12 - (intOf i).toNat)
  case atStart => exact ⟨0, by omega, rfl, HQ.out⟩
  case round =>
    obtain ⟨k, hk, rfl, hr⟩ := hrel
    by_cases hlt : k < 12
    · obtain ⟨n, lo, hi, hz, _, hix, hc0, hc1⟩ := nums_index x k hlt
      have c0 := (HCELL.out (k * 2)).trans hc0
      have c1 := (HCELL.out (k * 2 + 1)).trans hc1
      have hst := range_step x k n lo hi hz hr
      have HST := Lib.hid hst
      clear hr hst hz hc0 hc1
      by_cases h1 : n < lo
      · go_wp2_with fail
        go_ret
        exact ⟨ret_bool (by rw [← HST.out, decide_eq_false (show ¬ lo ≤ n by omega)]; rfl), HBW.out⟩
      · by_cases h2 : hi < n
        · go_wp2_with fail
          go_ret
          exact ⟨ret_bool (by rw [← HST.out, decide_eq_false (show ¬ n ≤ hi by omega)]; simp), HBW.out⟩
        · go_wp2_with fail
          exact ⟨⟨k + 1, by omega, by go_num, by rw [← HST.out, decide_eq_true (show lo ≤ n by omega), decide_eq_true (show n ≤ hi by omega)]; rfl⟩, by simp [intOf]; omega⟩
    · obtain rfl : k = 12 := by omega
      have hqt : q = true := hr.symm
      subst hqt
      clear hr
      go_wp2_with fail
      go_ret
      exact ⟨rfl, HBW.out⟩

end Go.Proofs.YthineckpociomaaDoor
