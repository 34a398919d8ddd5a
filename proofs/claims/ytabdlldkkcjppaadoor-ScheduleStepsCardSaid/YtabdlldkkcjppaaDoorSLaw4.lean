/-
  ScheduleTargets and ScheduleSteps walked.
-/
import Derived.Test.YtabdlldkkcjppaaDoorSLaw3
import Derived.Test.YtabdlldkkcjppaaDoorScN
import Derived.Deep.Cut
namespace Go.Proofs.YtabdlldkkcjppaaDoor
open Go.RowKit Saw Go.Sort

theorem below2' {w : World} {o1 o2 : Obj} : Below w.heap.size w ((w.alloc o1).alloc o2) := bel_alloc (bel_alloc (Below.refl _ _))
theorem two_new (w : World) (o1 o2 : Obj) : ((w.alloc o1).alloc o2).heap[w.heap.size]? = some o1 ∧ ((w.alloc o1).alloc o2).heap[w.heap.size + 1]? = some o2 ∧ ((w.alloc o1).alloc o2).heap.size = w.heap.size + 1 + 1 := by
  have b2 := heap_alloc_last (w.alloc o1) o2
  rw [World.size_alloc] at b2
  exact ⟨hpA (heap_alloc_last w o1) _, b2, by rw [World.size_alloc, World.size_alloc]⟩
section
variable {ops : Array Oper} {rest : List Oper} {d : Option Tmp} {ty : TypeId} {pos : String} {af : Array Edge} {a : Act} {w : World} {Q : Exit → Act → World → Prop} {p q : Operand}
theorem ksp_load (b o : Nat) (x : Sp) (hx : a.eval p = .pointer (some ⟨b, o, none⟩)) (hc : w.rangeAt b o (kspCells x))
    (h : wpList Tryd.prog ops Q rest (a.put d (.agg (kspCells x).toArray)) w) : wpList Tryd.prog ops Q (⟨d, .load 37 p, ty, pos, af, none⟩ :: rest) a w :=
  wpList_loadAs b o (kspCells x) hx hc Tryd.underlying37 rfl ksp_info h
end
/-- The boxes of the arguments. -/
def TgBox (w W : World) (s : Sc) (As : Option Addr) (cs : Nat) (y : Sp) : Prop :=
  IsSc W w.heap.size s (.slice As s.stages.length cs) ∧ W.heap[w.heap.size + 1]? = some (.cells (kspCells y).toArray 37 (0, 0)) ∧ w.heap.size + 1 + 1 ≤ W.heap.size ∧ Below w.heap.size w W
theorem TgBox.next {w W W' : World} {s : Sc} {As : Option Addr} {cs : Nat} {y : Sp} (h : TgBox w W s As cs y) (hb : Below W.heap.size W W') : TgBox w W' s As cs y := by
  obtain ⟨h1, h3, h4, h5⟩ := h
  exact ⟨h1.below hb (by omega), (hb.block _ (by omega)).trans h3, Nat.le_trans h4 hb.size, bel_call h5 hb⟩

set_option maxRecDepth 100000 in
set_option maxHeartbeats 2000000 in
theorem scheduleTargets_walk (s : Sc) (As : Option Addr) (cs : Nat) (stage : Int) (y : Sp) (w : World) (hsc : ScArg w s As cs) (_hi : I64 stage) (hy : SpOk y) (hv : VarsS w) :
    Calls Tryd.prog 9 #[.agg #[.string (str s.name), .int .i64 s.ramp, .slice As s.stages.length cs], .int .i64 stage, .agg (kspCells y).toArray] w (LawS w) := by
  have HSC := Lib.hid hsc
  have HV := Lib.hid hv
  have hsn : s.name.length ≤ 9223372036854775807 := by have h9 := hsc.2.1; unfold maxLen at h9; omega
  have hss : s.stages.length ≤ 9223372036854775807 := by obtain ⟨_, _, _, _, h9⟩ := hsc.1.form; unfold maxLen at h9; omega
  have hyn : (str y.name).size ≤ 9223372036854775807 := by have h9 := hy.1; unfold maxLen at h9; rw [size_str]; omega
  obtain ⟨W0, hW0⟩ : ∃ W0, (w.alloc (.cells #[.string (str s.name), .int .i64 s.ramp, .slice As s.stages.length cs] 24)).alloc (.cells (kspCells y).toArray 37) = W0 := ⟨_, rfl⟩
  obtain ⟨b1, b3, b4⟩ := two_new w (.cells #[.string (str s.name), .int .i64 s.ramp, .slice As s.stages.length cs] 24) (.cells (kspCells y).toArray 37)
  rw [hW0] at b1 b3 b4
  have HE0 := Lib.hid (show TgBox w W0 s As cs y from ⟨b1, b3, by omega, by rw [← hW0]; exact below2'⟩)
  have HW0 := Lib.hid (show (w.alloc (.cells #[.string (str s.name), .int .i64 s.ramp, .slice As s.stages.length cs] 24)).alloc (.cells #[.string (str y.name), .int .i64 y.green, .int .i64 y.fast, .int .i64 y.slow, .int .i64 y.safe, .int .i64 y.grad, .int .i64 y.crack, .int .i64 y.temp, .int .i64 y.depress, .int .i64 y.density, .int .i64 y.stiff, .int .i64 y.knots, .int .i64 y.shrink] 37) = W0 from hW0)
  have hsz0 := b4
  clear hv hsc hW0 b1 b3 b4 hy
  show Calls Tryd.prog 9 #[.agg #[.string (str s.name), .int .i64 s.ramp, .slice As s.stages.length cs], .int .i64 stage, .agg #[.string (str y.name), .int .i64 y.green, .int .i64 y.fast, .int .i64 y.slow, .int .i64 y.safe, .int .i64 y.grad, .int .i64 y.crack, .int .i64 y.temp, .int .i64 y.depress, .int .i64 y.density, .int .i64 y.stiff, .int .i64 y.knots, .int .i64 y.shrink]] w (LawS w)
  go_enter Tryd.func9, Tryd.ntmps9
  go_wp2_with fail
  rw [HW0.out]
  refine (small_any s As cs _ hsn hss).mono ?_
  rintro e w1 ⟨he, hb1⟩
  have HE1 := Lib.hid (HE0.out.next hb1)
  have q0 : w1.cell? ⟨w.heap.size + 1, 0, none⟩ = some (.string (str y.name)) := cell_of_box HE1.out.2.1 rfl
  clear hb1
  obtain ⟨q, hq⟩ : ∃ q, smallOne s = q := ⟨_, rfl⟩
  rw [hq] at he
  subst he
  cases q with
  | false =>
    clear hq
    go_wp2_with fail
    refine (awakeS_any _ (HV.out.to2 (HE1.out.2.2.2))).mono ?_
    rintro e w2 ⟨rfl, hbz⟩
    have HBZ := Lib.hid (bel_call (HE1.out.2.2.2) hbz)
    clear hbz
    go_wp2_with fail
    go_ret
    exact ⟨rfl, HBZ.out⟩
  | true =>
    clear hq
    by_cases h100 : 100 < (str y.name).size
    · skip
      go_wp2_with fail
      refine (awakeS_any _ (HV.out.to2 (HE1.out.2.2.2))).mono ?_
      rintro e w2 ⟨rfl, hbz⟩
      have HBZ := Lib.hid (bel_call (HE1.out.2.2.2) hbz)
      clear hbz
      go_wp2_with fail
      go_ret
      exact ⟨rfl, HBZ.out⟩
    · obtain ⟨c0, c1, c2, _, _, _, _⟩ := HE1.out.1.cells
      have hN5 : w.heap.size + 1 < w1.heap.size := by have := HE1.out.2.2.1; omega
      have HRG := Lib.hid (show w1.rangeAt (w.heap.size + 1) 0 (kspCells y) from rangeAt_block HE1.out.2.1)
      go_wp2_with ((with_reducible refine ksp_load (w.heap.size + 1) 0 y ?hx HRG.out ?_); (case hx => rfl))
      refine (target_any s As cs stage y _ (HSC.out.1.next HE1.out.2.2.2)).mono ?_
      rintro e w2 ⟨he, hb2⟩
      have HE2 := Lib.hid (HE1.out.next hb2)
      clear hb2 c0 c1 c2 q0
      obtain ⟨t1, t2, ht⟩ : ∃ t1 t2, targetP s stage y.temp y.depress = (t1, t2) := ⟨_, _, rfl⟩
      rw [ht] at he
      subst he
      obtain ⟨W3, hW3⟩ : ∃ W3, w2.alloc (.cells #[.int .i64 t1, .int .i64 t2] 41) = W3 := ⟨_, rfl⟩
      have hbW3 : Below w2.heap.size w2 W3 := by rw [← hW3]; exact (Below.refl _ _).alloc (Nat.le_refl _) _
      have HE3 := Lib.hid (HE2.out.next hbW3)
      have HC3 := Lib.hid (show W3.heap[w2.heap.size]? = some (.cells #[.int .i64 t1, .int .i64 t2] 41 (0, 0)) by rw [← hW3]; exact heap_alloc_last w2 _)
      have HW3 := Lib.hid hW3
      obtain ⟨N3, hN3⟩ : ∃ N3, w2.heap.size = N3 := ⟨_, rfl⟩
      rw [hN3] at HC3
      have HN3 := Lib.hid hN3
      have d0 : W3.cell? ⟨N3, 0, none⟩ = some (.int .i64 t1) := cell_of_box HC3.out rfl
      have d1 : W3.cell? ⟨N3, 1, none⟩ = some (.int .i64 t2) := cell_of_box HC3.out rfl
      have c2 : W3.cell? ⟨w.heap.size, 2, none⟩ = some (.slice As s.stages.length cs) := HE3.out.1.cells.2.2.1
      have k7 : W3.cell? ⟨w.heap.size + 1, 7, none⟩ = some (.int .i64 y.temp) := cell_of_box HE3.out.2.1 rfl
      have k8 : W3.cell? ⟨w.heap.size + 1, 8, none⟩ = some (.int .i64 y.depress) := cell_of_box HE3.out.2.1 rfl
      have hNl : N3 < W3.heap.size := (Array.getElem?_eq_some_iff.1 HC3.out).1
      have hwl : w.heap.size + 1 < W3.heap.size := by have := HE3.out.2.2.1; omega
      clear hbW3 hW3 hN3
      have hgg := fun W x' y' xs ys => run_eqGuard_agg (P := Tryd.prog) W .eql 41 x' y' xs ys guard_clim
      by_cases hout : stage < 0 ∨ (s.stages.length : Int) ≤ stage
      · have ht0 := targetP_out (s := s) (t := y.temp) (d := y.depress) hout
        rw [ht] at ht0
        obtain ⟨rfl, rfl⟩ : t1 = 0 ∧ t2 = 0 := by injection ht0 with z1 z2; exact ⟨z1, z2⟩
        have heq : ∀ W : World, (binOp .eql 41 (.agg #[.int .i64 0, .int .i64 0]) (.agg #[.int .i64 0, .int .i64 0])).run Tryd.prog W = .ok (.bool true) W := fun W => by rw [eqlC]; simp
        clear ht ht0
        by_cases hs0 : stage < 0
        · go_upto_region 4 with fail
          rw [HW3.out, HN3.out]
          go_wp2_with fail
          refine (awakeS_any _ (HV.out.to2 (HE3.out.2.2.2))).mono ?_
          rintro e w4 ⟨rfl, hbz⟩
          have HBZ := Lib.hid (bel_call (HE3.out.2.2.2) hbz)
          clear hbz
          go_wp2_with fail
          go_ret
          exact ⟨rfl, HBZ.out⟩
        · have hs1 : (s.stages.length : Int) ≤ stage := by omega
          go_upto_region 4 with fail
          rw [HW3.out, HN3.out]
          go_wp2_with fail
          refine (awakeS_any _ (HV.out.to2 (HE3.out.2.2.2))).mono ?_
          rintro e w4 ⟨rfl, hbz⟩
          have HBZ := Lib.hid (bel_call (HE3.out.2.2.2) hbz)
          clear hbz
          go_wp2_with fail
          go_ret
          exact ⟨rfl, HBZ.out⟩
      · obtain ⟨k, rfl⟩ : ∃ k : Nat, stage = k := ⟨stage.toNat, by omega⟩
        have hk : k < s.stages.length := by omega
        have hx : s.stages[k]? = some s.stages[k] := List.getElem?_eq_getElem hk
        obtain ⟨x, hxe⟩ : ∃ x, s.stages[k] = x := ⟨_, rfl⟩
        rw [hxe] at hx
        have hti := targetP_in (t := y.temp) (d := y.depress) hx
        rw [ht] at hti
        obtain ⟨m1, m2⟩ : t1 = min x.temp y.temp ∧ t2 = min x.dep y.depress := by injection hti with z1 z2; exact ⟨z1, z2⟩
        obtain ⟨b, off, rfl, hbl, q0, q1, q2, q3⟩ := RdSt.at_ (HSC.out.1.next HE3.out.2.2.2) hx
        have g1 : ¬ y.temp < t1 := by omega
        have g2 : ¬ x.temp < t1 := by omega
        have g3 : ¬ y.depress < t2 := by omega
        have g4 : ¬ x.dep < t2 := by omega
        have hk1 : (0 : Int) ≤ (k : Int) := by omega
        have hk2 : (k : Int) < (s.stages.length : Int) := by omega
        have hk3 : ¬ (s.stages.length : Int) ≤ (k : Int) := by omega
        have e1 : t1 = y.temp ∨ t1 = x.temp := by omega
        have e2 : t2 = y.depress ∨ t2 = x.dep := by omega
        have E1 := Lib.hid e1
        have E2 := Lib.hid e2
        clear hx hxe ht hti m1 m2 e1 e2 hout
        go_upto_region 4 with fail
        rw [HW3.out, HN3.out]
        go_upto_region 9 with fail
        obtain ⟨W4, hW4⟩ : ∃ W4, W3.alloc (.cells #[.int .i64 x.below, .int .i64 x.ticks, .int .i64 x.temp, .int .i64 x.dep] 52) = W4 := ⟨_, rfl⟩
        have hbW4 : Below W3.heap.size W3 W4 := by rw [← hW4]; exact (Below.refl _ _).alloc (Nat.le_refl _) _
        have HE4 := Lib.hid (HE3.out.next hbW4)
        have x4 : IsStg W4 W3.heap.size x := by rw [← hW4]; exact heap_alloc_last W3 _
        have HC4 := Lib.hid ((hbW4.block N3 hNl).trans HC3.out)
        rw [hW4]
        clear d0 d1 c2 k7 k8 q0 q1 q2 q3 hW4 hbW4
        have d0 : W4.cell? ⟨N3, 0, none⟩ = some (.int .i64 t1) := cell_of_box HC4.out rfl
        have d1 : W4.cell? ⟨N3, 1, none⟩ = some (.int .i64 t2) := cell_of_box HC4.out rfl
        have k7 : W4.cell? ⟨w.heap.size + 1, 7, none⟩ = some (.int .i64 y.temp) := cell_of_box HE4.out.2.1 rfl
        have k8 : W4.cell? ⟨w.heap.size + 1, 8, none⟩ = some (.int .i64 y.depress) := cell_of_box HE4.out.2.1 rfl
        obtain ⟨_, _, x2, x3, _⟩ := x4.cells
        clear x4
        by_cases z1 : t1 = y.temp
        · have f1 : (t1 == y.temp) = true := by rw [z1]; simp
          clear z1
          by_cases z2 : t2 = y.depress
          · have f2 : (t2 == y.depress) = true := by rw [z2]; simp
            clear z2
            go_wp2_with fail
            refine (awakeS_any _ (HV.out.to2 (HE4.out.2.2.2))).mono ?_
            rintro e w5 ⟨rfl, hbz⟩
            have HBZ := Lib.hid (bel_call (HE4.out.2.2.2) hbz)
            clear hbz
            go_wp2_with fail
            go_ret
            exact ⟨rfl, HBZ.out⟩
          · have f2 : (t2 == y.depress) = false := by rw [beq_eq_false_iff_ne]; exact z2
            have f3 : (t2 == x.dep) = true := by rw [beq_iff_eq]; exact E2.out.resolve_left z2
            clear z2
            go_wp2_with fail
            refine (awakeS_any _ (HV.out.to2 (HE4.out.2.2.2))).mono ?_
            rintro e w5 ⟨rfl, hbz⟩
            have HBZ := Lib.hid (bel_call (HE4.out.2.2.2) hbz)
            clear hbz
            go_wp2_with fail
            go_ret
            exact ⟨rfl, HBZ.out⟩
        · have f1 : (t1 == y.temp) = false := by rw [beq_eq_false_iff_ne]; exact z1
          have f4 : (t1 == x.temp) = true := by rw [beq_iff_eq]; exact E1.out.resolve_left z1
          clear z1
          by_cases z2 : t2 = y.depress
          · have f2 : (t2 == y.depress) = true := by rw [z2]; simp
            clear z2
            go_wp2_with fail
            refine (awakeS_any _ (HV.out.to2 (HE4.out.2.2.2))).mono ?_
            rintro e w5 ⟨rfl, hbz⟩
            have HBZ := Lib.hid (bel_call (HE4.out.2.2.2) hbz)
            clear hbz
            go_wp2_with fail
            go_ret
            exact ⟨rfl, HBZ.out⟩
          · have f2 : (t2 == y.depress) = false := by rw [beq_eq_false_iff_ne]; exact z2
            have f3 : (t2 == x.dep) = true := by rw [beq_iff_eq]; exact E2.out.resolve_left z2
            clear z2
            go_wp2_with fail
            refine (awakeS_any _ (HV.out.to2 (HE4.out.2.2.2))).mono ?_
            rintro e w5 ⟨rfl, hbz⟩
            have HBZ := Lib.hid (bel_call (HE4.out.2.2.2) hbz)
            clear hbz
            go_wp2_with fail
            go_ret
            exact ⟨rfl, HBZ.out⟩
end Go.Proofs.YtabdlldkkcjppaaDoor
