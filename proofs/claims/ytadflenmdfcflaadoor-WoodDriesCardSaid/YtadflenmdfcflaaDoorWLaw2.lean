/-
  WoodDries walked; the law's function small.
-/
import Derived.Test.YtadflenmdfcflaaDoorWLaw1
import Derived.Test.YtadflenmdfcflaaDoorGuard
namespace Go.Proofs.YtadflenmdfcflaaDoor
open Go.ChangeShapes Go.WideShapes Go.ChangeAt Go.RowKit Saw Go.Sort

set_option maxRecDepth 100000 in
theorem open_int2 {H : Type} {enc : TypeId × Value → H} {W : World} {r : Reach} {b0 : Nat} {v : Value} {d : DataW H} {p : List MemPlace} (hv : Value.okWide Tryd.prog W r b0 40 v)
    (h : DataW.Trod enc Tryd.prog W 0 (fun _ => true) true 40 v d p) : ∃ a b : Int, v = .agg #[.int .i64 a, .int .i64 b] ∧ (I64 a ∧ I64 b) := by
  simp only [Value.okWide, Tryd.underlying40] at hv
  obtain ⟨cs, rfl, hsz, _⟩ := hv
  obtain ⟨fuel, hf⟩ := h
  obtain ⟨xs, m, _, hx, hl, hn, hel⟩ := DataW.trod_array Tryd.underlying40 (show DataW.trod enc Tryd.prog W 0 (fun _ => true) true fuel 40 cs.toList = some _ from hf)
  have c2 : Tryd.prog.cellsOf 40 = 2 := by kernel_rfl
  have c1 : Tryd.prog.cellsOf 3 = 1 := by kernel_rfl
  obtain ⟨l⟩ := cs
  rw [c2] at hl
  match l, hl, xs, hn, hel with
  | [u0, u1], _, [x0, x1], _, hel =>
    have h0 := hel 0 (by decide)
    have h1 := hel 1 (by decide)
    rw [c1] at h0 h1
    obtain ⟨n0, e0, _, w0⟩ := DataW.trod_int Tryd.underlying3 (show DataW.trod enc Tryd.prog W 0 (fun _ => true) true m 3 _ = some x0 from h0)
    obtain ⟨n1, e1, _, w1⟩ := DataW.trod_int Tryd.underlying3 (show DataW.trod enc Tryd.prog W 0 (fun _ => true) true m 3 _ = some x1 from h1)
    simp at e0 e1
    subst e0 e1
    exact ⟨n0, n1, rfl, wf_i64b w0, wf_i64b w1⟩

theorem cells2 {W : World} {b : Nat} {u v : Value} (h : W.rangeAt b 0 [u, v]) : W.cell? ⟨b, 0, none⟩ = some u ∧ W.cell? ⟨b, 1, none⟩ = some v := ⟨h 0 u rfl, by have := h 1 v rfl; rwa [Nat.zero_add] at this⟩
theorem box3 {w : World} (o o' o'' : Obj) : Below w.heap.size w (((w.alloc o).alloc o').alloc o'') :=
  (((Below.refl _ _).alloc (Nat.le_refl _) _).alloc (by rw [World.size_alloc]; omega) _).alloc (by rw [World.size_alloc, World.size_alloc]; omega) _

set_option maxRecDepth 100000 in
set_option maxHeartbeats 1000000 in
theorem woodDries_walk (x : Sp) (s0 s1 m0 m1 : Int) (w : World) (_hx : SpOk x) (hs : I64 s0 ∧ I64 s1) (hm : I64 m0 ∧ I64 m1) (hv : Vars w) :
    Calls Tryd.prog 8 #[.agg (spCells x).toArray, .agg #[.int .i64 s0, .int .i64 s1], .agg #[.int .i64 m0, .int .i64 m1]] w (LawPost w) := by
  obtain ⟨⟨_, _⟩, ⟨_, _⟩⟩ := hs
  obtain ⟨⟨_, _⟩, ⟨_, _⟩⟩ := hm
  have HV := Lib.hid hv
  have c12 := spC12 x
  obtain ⟨s, hsh⟩ : ∃ s, x.shrink = s := ⟨_, rfl⟩
  rw [hsh] at c12
  have HS := Lib.hid hsh
  clear hv _hx hsh
  by_cases hgood : (0 ≤ s ∧ s ≤ 200) ∧ (0 ≤ s0 ∧ s0 ≤ s1 ∧ s1 ≤ 20000) ∧ m0 ≤ m1
  · obtain ⟨⟨g1, g2⟩, ⟨g3, g4, g5⟩, g6⟩ := hgood
    have b1 := shrunkP_bd s s0 m0 g3 (by omega) g1 g2
    have b2 := shrunkP_size s s0 s1 m0 g3 g4 g5 g1 g2
    have b3 := shrunkP_moist s s0 m0 m1 g3 (by omega) g1 g2 g6
    have b4 : 3000 ≤ m0 → shrunkP s s0 m0 = s0 := shrunkP_wet s s0 m0
    obtain ⟨a, ha⟩ : ∃ a, shrunkP s s0 m0 = a := ⟨_, rfl⟩
    obtain ⟨a', ha'⟩ : ∃ a', shrunkP s s1 m0 = a' := ⟨_, rfl⟩
    obtain ⟨a'', ha''⟩ : ∃ a'', shrunkP s s0 m1 = a'' := ⟨_, rfl⟩
    rw [ha] at b1 b2 b3 b4
    rw [ha'] at b2
    rw [ha''] at b3
    have HA := Lib.hid ha
    have HA' := Lib.hid ha'
    have HA'' := Lib.hid ha''
    have HB4 := Lib.hid b4
    have d1 : decide (a < 0) = false := decide_eq_false (by omega)
    have d2 : decide (s0 < a) = false := decide_eq_false (by omega)
    have d3 : decide (a' < a) = false := decide_eq_false (by omega)
    clear ha ha' ha'' b4
    by_cases hm3 : m0 < 3000
    case' neg => have hae : (a == s0) = true := beq_iff_eq.2 (HB4.out (by omega))
    all_goals
      go_enter Tryd.func8, Tryd.ntmps8
      go_wp2_with ((with_reducible refine wpList_loadAs w.heap.size 0 (spCells x) ?hx ?hc Tryd.underlying26 ?hd ?hi ?_); (case hi => exact sp_info); (case hx => rfl); (case hd => rfl); (case hc => exact rangeAt_alloc (by simp only [World.size_alloc]; omega) (rangeAt_alloc (by simp only [World.size_alloc]; omega) (rangeAt_block (heap_alloc_last w _)) _) _))
      refine (shrunk_any x _ _ _).mono ?_
      rintro e w1 ⟨he, hb1⟩
      rw [HS.out, HA.out] at he
      subst he
      have HB1 := Lib.hid ((box3 _ _ _).trans (hb1.mono (box3 _ _ _).size))
      have HP1 := Lib.hid (show w1.rangeAt (w.heap.size + 1) 0 [.int .i64 s0, .int .i64 s1] from rangeAt_below hb1 (by simp only [World.size_alloc]; omega) (rangeAt_alloc (by simp only [World.size_alloc]; omega) (by have := rangeAt_block (heap_alloc_last (w.alloc (.cells (spCells x).toArray 26)) (.cells #[.int .i64 s0, .int .i64 s1] 40)); rw [World.size_alloc] at this; exact this) _))
      have HM1 := Lib.hid (show w1.rangeAt (w.heap.size + 1 + 1) 0 [.int .i64 m0, .int .i64 m1] from rangeAt_below hb1 (by simp only [World.size_alloc]; omega) (by have := rangeAt_block (heap_alloc_last ((w.alloc (.cells (spCells x).toArray 26)).alloc (.cells #[.int .i64 s0, .int .i64 s1] 40)) (.cells #[.int .i64 m0, .int .i64 m1] 40)); rw [World.size_alloc, World.size_alloc] at this; exact this))
      obtain ⟨k1, k2⟩ := cells2 HP1.out
      obtain ⟨k3, k4⟩ := cells2 HM1.out
      have HR1 := Lib.hid (rangeAt_below hb1 (by simp only [World.size_alloc]; omega) (rangeAt_alloc (by simp only [World.size_alloc]; omega) (rangeAt_alloc (by simp only [World.size_alloc]; omega) (rangeAt_block (heap_alloc_last w _)) _) _))
      have hz1 : w.heap.size + 3 ≤ w1.heap.size := by have := hb1.size; simp only [World.size_alloc] at this; omega
      clear hb1
      go_wp2_with ((with_reducible refine wpList_gload w.heap.size 0 (spCells x) ?hw ?hx HR1.out Tryd.underlying26 ?hd ?hi ?_); (case hi => exact sp_info); (case hw => simp only [d1, d2, d3]; kernel_rfl); (case hx => rfl); (case hd => rfl))
      refine (shrunk_any x _ _ _).mono ?_
      rintro e w2 ⟨he, hb2⟩
      rw [HS.out, HA'.out] at he
      subst he
      have HB2 := Lib.hid (HB1.out.trans (hb2.mono (by omega)))
      have HR2 := Lib.hid (rangeAt_below hb2 (by omega) HR1.out)
      have HP2 := Lib.hid (rangeAt_below hb2 (by omega) HP1.out)
      have HM2 := Lib.hid (rangeAt_below hb2 (by omega) HM1.out)
      clear k1 k2 k3 k4
      obtain ⟨k1, k2⟩ := cells2 HP2.out
      obtain ⟨k3, k4⟩ := cells2 HM2.out
      have hz2 : w.heap.size + 3 ≤ w2.heap.size := by have := hb2.size; omega
      clear hb2
      go_wp2_with ((with_reducible refine wpList_gload w.heap.size 0 (spCells x) ?hw ?hx HR2.out Tryd.underlying26 ?hd ?hi ?_); (case hi => exact sp_info); (case hw => simp only [d1, d2, d3]; kernel_rfl); (case hx => rfl); (case hd => rfl))
      refine (shrunk_any x _ _ _).mono ?_
      rintro e w3 ⟨he, hb3⟩
      rw [HS.out, HA''.out] at he
      subst he
      have HB3 := Lib.hid (HB2.out.trans (hb3.mono (by omega)))
      clear k1 k2 k3 k4
      obtain ⟨k1, k2⟩ := cells2 (rangeAt_below hb3 (by omega) HP2.out)
      obtain ⟨k3, k4⟩ := cells2 (rangeAt_below hb3 (by omega) HM2.out)
      have hz3 : w.heap.size + 3 ≤ w3.heap.size := by have := hb3.size; omega
      clear hb3
      go_wp2_with fail
      refine (awake_any _ (HV.out.below HB3.out)).mono ?_
      rintro e w4 ⟨rfl, hb4⟩
      have HB4' := Lib.hid (HB3.out.trans (hb4.mono (by omega)))
      clear hb4
      go_wp2_with fail
      go_ret
      exact ⟨rfl, HB4'.out⟩
  · go_enter Tryd.func8, Tryd.ntmps8
    go_wp2_with (go_at_call 12; refine (awake_any _ (HV.out.below (box3 _ _ _))).mono ?_; rintro e w1 ⟨rfl, hb1⟩; have HB1 := Lib.hid ((box3 _ _ _).trans (hb1.mono (box3 _ _ _).size)); clear hb1)
    all_goals
      go_ret
      exact ⟨rfl, HB1.out⟩

end Go.Proofs.YtadflenmdfcflaaDoor
