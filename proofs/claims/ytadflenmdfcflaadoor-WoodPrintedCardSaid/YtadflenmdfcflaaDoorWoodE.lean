/-
  The contracts of wood.species, units.Clamp, wood.Shrunk, wood.Standard.
-/
import Derived.Test.YtadflenmdfcflaaDoorWoodC
import Derived.Test.YtadflenmdfcflaaDoorPlainA
import Derived.Great.BuildSlice
namespace Go.Proofs.YtadflenmdfcflaaDoor
open Go.RowKit Saw

set_option maxRecDepth 100000 in
set_option maxHeartbeats 400000 in
theorem species_any (x : Sp) (w : World) :
    Calls Tryd.prog 32 #[.string (str x.name), .agg #[.int .i64 x.green, .int .i64 x.fast, .int .i64 x.slow, .int .i64 x.safe, .int .i64 x.grad, .int .i64 x.crack, .int .i64 x.temp, .int .i64 x.depress, .int .i64 x.density, .int .i64 x.stiff, .int .i64 x.knots, .int .i64 x.shrink]] w fun e w' => e = .returned (.agg (spCells x).toArray) ∧ Below w.heap.size w w' := by
  go_enter Tryd.func32, Tryd.ntmps32
  go_wp2_with (first
    | ((with_reducible refine sp_alloc ?_); intro c4 H4)
    | ((with_reducible refine wpList_buildAs (t := 26) (spCells x).toArray ?hf ?_); (case hf => kernel_rfl); intro arr harr; have HARR := Lib.hid harr; clear harr)
    | ((with_reducible refine sp_new x (w.heap.size + 1) ?hx ?hN ?hy H4 ?_); (case hx => rfl); (case hN => rw [World.size_alloc]); (case hy => (rw [← HARR.out]; rfl))))
  refine bodyPost_ret (v := .agg (spCells x).toArray) ?_ rfl ⟨rfl, ?_⟩
  · exact results_cell1 Tryd.results32 _ _ (w.heap.size + 1) 0 (spCells x) rfl (by have := rangeAt_block (heap_alloc_last (w.alloc (.cells #[.int .i64 x.green, .int .i64 x.fast, .int .i64 x.slow, .int .i64 x.safe, .int .i64 x.grad, .int .i64 x.crack, .int .i64 x.temp, .int .i64 x.depress, .int .i64 x.density, .int .i64 x.stiff, .int .i64 x.knots, .int .i64 x.shrink] 48)) (.cells (spCells x).toArray 26)); rw [World.size_alloc] at this; exact this) Tryd.underlying26 rfl sp_info
  · exact ((Below.refl _ _).alloc (Nat.le_refl _) _).alloc (by rw [World.size_alloc]; omega) _

set_option maxHeartbeats 400000 in
theorem clamp_any (n lo hi : Int) (w : World) :
    Calls Tryd.prog 33 #[.int .i64 n, .int .i64 lo, .int .i64 hi] w fun e w' => e = .returned (.int .i64 (clampP n lo hi)) ∧ w = w' := by
  go_enter Tryd.func33, Tryd.ntmps33
  go_wp2
  all_goals
    go_ret
    refine ⟨ret_int ?_, rfl⟩
    unfold clampP
    (repeat' split) <;> omega

set_option maxHeartbeats 1000000 in
theorem shrunk_any (x : Sp) (size moist : Int) (w : World) :
    Calls Tryd.prog 20 #[.agg (spCells x).toArray, .int .i64 size, .int .i64 moist] w fun e w' => e = .returned (.int .i64 (shrunkP x.shrink size moist)) ∧ Below w.heap.size w w' := by
  have c12 := spC12 x
  obtain ⟨r, hr⟩ : ∃ r, shrunkP x.shrink size moist = r := ⟨_, rfl⟩
  rw [hr]
  unfold shrunkP at hr
  by_cases h1 : size < 0
  · rw [if_pos (.inl h1)] at hr
    subst hr
    go_enter Tryd.func20, Tryd.ntmps20
    go_wp2_with fail
    go_ret
    exact ⟨rfl, (Below.refl _ _).alloc (Nat.le_refl _) _⟩
  · by_cases h2 : 20000 < size
    · rw [if_pos (.inr (.inl h2))] at hr
      subst hr
      go_enter Tryd.func20, Tryd.ntmps20
      go_wp2_with fail
      go_ret
      exact ⟨rfl, (Below.refl _ _).alloc (Nat.le_refl _) _⟩
    · by_cases h3 : x.shrink < 0
      · rw [if_pos (.inr (.inr (.inl h3)))] at hr
        subst hr
        go_enter Tryd.func20, Tryd.ntmps20
        go_wp2_with fail
        go_ret
        exact ⟨rfl, (Below.refl _ _).alloc (Nat.le_refl _) _⟩
      · by_cases h4 : 200 < x.shrink
        · rw [if_pos (.inr (.inr (.inr h4)))] at hr
          subst hr
          go_enter Tryd.func20, Tryd.ntmps20
          go_wp2_with fail
          go_ret
          exact ⟨rfl, (Below.refl _ _).alloc (Nat.le_refl _) _⟩
        · rw [if_neg (by omega)] at hr
          have hcb := clampP_bd moist
          obtain ⟨c, hc⟩ : ∃ c, clampP moist 0 3000 = c := ⟨_, rfl⟩
          rw [hc] at hr hcb
          have HR := Lib.hid hr
          have HC := Lib.hid hc
          obtain ⟨s, hs⟩ : ∃ s, x.shrink = s := ⟨_, rfl⟩
          rw [hs] at c12 h3 h4
          have HS := Lib.hid hs
          have m1 : 0 ≤ size * s := Int.mul_nonneg (by omega) (by omega)
          have m2 : size * s ≤ 20000 * 200 := Int.mul_le_mul (by omega) (by omega) (by omega) (by omega)
          have m3 : 0 ≤ size * s * (3000 - c) := Int.mul_nonneg m1 (by omega)
          have m4 : size * s * (3000 - c) ≤ 20000 * 200 * 3000 := Int.mul_le_mul m2 (by omega) (by omega) (by omega)
          clear hr hc hs
          go_enter Tryd.func20, Tryd.ntmps20
          go_wp2_with fail
          refine (clamp_any _ _ _ _).mono ?_
          rintro e w1 ⟨he, rfl⟩
          rw [HC.out] at he
          subst he
          go_wp2_with fail
          go_ret
          refine ⟨ret_int ?_, (Below.refl _ _).alloc (Nat.le_refl _) _⟩
          rw [← HR.out, HS.out]

/-- A slice that owns its species, from a block on. -/
def OwnsSp (w : World) (base : Nat) (v : Value) (l : List Sp) : Prop := w.ownsRow base 26 13 v l.length (spsCells l)

def StdPost (w : World) (e : Ending) (w' : World) : Prop := ∃ v, e = .returned v ∧ OwnsSp w' w.heap.size v stdSp ∧ Below w.heap.size w w'

set_option maxRecDepth 100000 in
set_option maxHeartbeats 400000 in
theorem standard_any (w : World) : Calls Tryd.prog 18 #[] w (StdPost w) := by
  go_enter Tryd.func18, Tryd.ntmps18
  go_wp2_with fail
  refine (species_any sp_pine _).mono ?_
  rintro e w1 ⟨rfl, hb1⟩
  have HB1 := Lib.hid hb1
  clear hb1
  go_wp2_with fail
  refine (species_any sp_spruce _).mono ?_
  rintro e w2 ⟨rfl, hb2⟩
  have HB2 := Lib.hid hb2
  clear hb2
  go_wp2_with fail
  refine (species_any sp_oak _).mono ?_
  rintro e w3 ⟨rfl, hb3⟩
  have HB3 := Lib.hid hb3
  clear hb3
  go_wp2_with fail
  refine (species_any sp_beech _).mono ?_
  rintro e w4 ⟨rfl, hb4⟩
  have HB4 := Lib.hid hb4
  clear hb4
  go_wp2_with ((with_reducible refine wpList_sliceAs (t := 22) 13 (spsCells stdSp).toArray Tryd.underlying22 sp_info sp_zero ?h1 ?h2 ?hf ?_); (case h1 => decide); (case h2 => decide); (case hf => kernel_rfl); intro arr harr; have HARR := Lib.hid harr; clear harr)
  go_ret
  have hb := HB1.out.trans ((HB2.out.mono HB1.out.size).trans ((HB3.out.mono (Nat.le_trans HB1.out.size HB2.out.size)).trans (HB4.out.mono (Nat.le_trans HB1.out.size (Nat.le_trans HB2.out.size HB3.out.size)))))
  refine ⟨_, rfl, ?_, hb.alloc hb.size _⟩
  rw [HARR.out]
  exact ownsRow_new hb.size rfl (by decide)

end Go.Proofs.YtadflenmdfcflaaDoor
