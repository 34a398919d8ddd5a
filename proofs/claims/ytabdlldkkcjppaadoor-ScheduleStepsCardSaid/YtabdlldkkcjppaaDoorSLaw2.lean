/-
  ScheduleChecks and ScheduleEnds walked.
-/
import Derived.Test.YtabdlldkkcjppaaDoorShOpen
import Derived.Test.YtabdlldkkcjppaaDoorScS
namespace Go.Proofs.YtabdlldkkcjppaaDoor
open Go.RowKit Saw Go.Sort

theorem VarsS.to2 {w w' : World} (h : VarsS w) (hb : Below w.heap.size w w') : VarsS w' := h.below hb h.2.2.1 h.2.2.2
theorem is_sc_cells {W : World} {g : Nat} {x : Sc} {v : Value} (h : IsSc W g x v) : ∀ d os, (grow (redrawn W d) os).cell? ⟨g, 0, none⟩ = some (.string (str x.name)) ∧ (grow (redrawn W d) os).cell? ⟨g, 1, none⟩ = some (.int .i64 x.ramp) ∧ (grow (redrawn W d) os).cell? ⟨g, 2, none⟩ = some v := fun d os =>
  ⟨cell_regrown h.cells.1 d os, cell_regrown h.cells.2.1 d os, cell_regrown h.cells.2.2.1 d os⟩

set_option maxRecDepth 100000 in
set_option maxHeartbeats 2000000 in
theorem scheduleChecks_walk (s : Sc) (As : Option Addr) (cs : Nat) (l : List Sc) (A : Option Addr) (c : Nat) (nm : ByteArray) (w : World) (hsc : ScArg w s As cs) (h : RdSc w w.heap.size (.slice A l.length c) l ∧ ∀ x ∈ l, x.name.length ≤ maxLen) (hs : nm.size ≤ 9223372036854775807) (hv : VarsS w) :
    Calls Tryd.prog 3 #[.agg #[.string (str s.name), .int .i64 s.ramp, .slice As s.stages.length cs], .slice A l.length c, .string nm] w (LawS w) := by
  obtain ⟨nm, rfl⟩ : ∃ n, nm = str n := ⟨bts nm, (str_bts nm).symm⟩
  have HRD := Lib.hid h.1
  have HNM := Lib.hid h.2
  have HSC := Lib.hid hsc
  have HV := Lib.hid hv
  have hsn : s.name.length ≤ 9223372036854775807 := by have h9 := hsc.2.1; unfold maxLen at h9; omega
  have hss : s.stages.length ≤ 9223372036854775807 := by obtain ⟨_, _, _, _, h9⟩ := hsc.1.form; unfold maxLen at h9; omega
  have HN0 := Lib.hid (show IsSc (w.alloc (.cells #[.string (str s.name), .int .i64 s.ramp, .slice As s.stages.length cs] 24)) w.heap.size s (.slice As s.stages.length cs) from heap_alloc_last w _)
  have HB0 := Lib.hid (show Below w.heap.size w (w.alloc (.cells #[.string (str s.name), .int .i64 s.ramp, .slice As s.stages.length cs] 24)) from (Below.refl _ _).alloc (Nat.le_refl _) _)
  clear h hv hsc
  go_enter Tryd.func3, Tryd.ntmps3
  go_wp2_with fail
  refine (small_any s As cs _ hsn hss).mono ?_
  rintro e w1 ⟨he, hb1⟩
  have HN1 := Lib.hid (HN0.out.below hb1 HN0.out.cells.2.2.2.2.2.2)
  have HB1 := Lib.hid (HB0.out.trans (hb1.mono HB0.out.size))
  clear hb1
  obtain ⟨q, hq⟩ : ∃ q, smallOne s = q := ⟨_, rfl⟩
  rw [hq] at he
  subst he
  cases q with
  | false =>
    clear hq
    go_wp2_with fail
    refine (awakeS_any _ (HV.out.to2 HB1.out)).mono ?_
    rintro e w2 ⟨rfl, hb2⟩
    have HB2 := Lib.hid (HB1.out.trans (hb2.mono HB1.out.size))
    clear hb2
    go_wp2_with fail
    go_ret
    exact ⟨rfl, HB2.out⟩
  | true =>
    have HSM := Lib.hid (smallOne_ok hq)
    clear hq
    go_wp2_with fail
    refine (few_any l _ _ (HRD.out.next HB1.out) HNM.out).mono ?_
    rintro e w2 ⟨he, hb2⟩
    have HN2 := Lib.hid (HN1.out.below hb2 HN1.out.cells.2.2.2.2.2.2)
    have HB2 := Lib.hid (HB1.out.trans (hb2.mono HB1.out.size))
    clear hb2
    obtain ⟨q, hq⟩ : ∃ q, fewP l = q := ⟨_, rfl⟩
    rw [hq] at he
    subst he
    cases q with
    | false =>
      clear hq
      go_wp2_with fail
      refine (awakeS_any _ (HV.out.to2 HB2.out)).mono ?_
      rintro e w3 ⟨rfl, hb3⟩
      have HB3 := Lib.hid (HB2.out.trans (hb3.mono HB2.out.size))
      clear hb3
      go_wp2_with fail
      go_ret
      exact ⟨rfl, HB3.out⟩
    | true =>
      have HFW := Lib.hid (fewP_hyp hq)
      clear hq
      by_cases h100 : 100 < (str nm).size
      · go_wp2_with fail
        refine (awakeS_any _ (HV.out.to2 HB2.out)).mono ?_
        rintro e w3 ⟨rfl, hb3⟩
        have HB3 := Lib.hid (HB2.out.trans (hb3.mono HB2.out.size))
        clear hb3
        go_wp2_with fail
        go_ret
        exact ⟨rfl, HB3.out⟩
      · go_wp2_with fail
        refine (scFind_any l _ nm _ (HRD.out.next HB2.out) HFW.out.1).mono ?_
        rintro e w3 ⟨x, A3, c3, hx3, he, hst3, hb3⟩
        obtain ⟨r, hr⟩ : ∃ r, findSc l nm = r := ⟨_, rfl⟩
        obtain ⟨rs, hrs⟩ : ∃ rs, r.isSome = rs := ⟨_, rfl⟩
        rw [hr] at he hx3
        rw [hrs] at he
        subst he
        obtain ⟨W3, hW3⟩ : ∃ W3, w3.alloc (.cells #[.string (str x.name), .int .i64 x.ramp, .slice A3 x.stages.length c3] 24) = W3 := ⟨_, rfl⟩
        have hbW3 : Below w3.heap.size w3 W3 := by rw [← hW3]; exact (Below.refl _ _).alloc (Nat.le_refl _) _
        have HX3 := Lib.hid (show IsSc W3 w3.heap.size x (.slice A3 x.stages.length c3) by rw [← hW3]; exact heap_alloc_last w3 _)
        have HN3 := Lib.hid ((HN2.out.below hb3 HN2.out.cells.2.2.2.2.2.2).below hbW3 (Nat.lt_of_lt_of_le HN2.out.cells.2.2.2.2.2.2 hb3.size))
        have HB3 := Lib.hid (HB2.out.trans ((hb3.trans (hbW3.mono hb3.size)).mono HB2.out.size))
        have HST3 := Lib.hid (hst3.next hbW3)
        have HW3 := Lib.hid hW3
        obtain ⟨N3, hN3⟩ : ∃ N3, w3.heap.size = N3 := ⟨_, rfl⟩
        rw [hN3] at HX3
        have HN3' := Lib.hid hN3
        clear hb3 hst3 hbW3 hW3 hN3
        go_wp2_with fail
        rw [HW3.out, HN3'.out]
        refine (rFind_any l _ nm _ (HRD.out.next HB3.out)).mono ?_
        rintro e w4 ⟨y, A4, c4, hy4, he, hst4, hb4⟩
        rw [hr] at he hy4
        rw [hrs] at he
        subst he
        obtain rfl : y = x := by rw [← hy4, ← hx3]
        obtain ⟨W4, hW4⟩ : ∃ W4, w4.alloc (.cells #[.string (str y.name), .int .i64 y.ramp, .slice A4 y.stages.length c4] 24) = W4 := ⟨_, rfl⟩
        have hbW4 : Below w4.heap.size w4 W4 := by rw [← hW4]; exact (Below.refl _ _).alloc (Nat.le_refl _) _
        have hb34 : Below W3.heap.size W3 W4 := hb4.trans (hbW4.mono hb4.size)
        have HY4 := Lib.hid (show IsSc W4 w4.heap.size y (.slice A4 y.stages.length c4) by rw [← hW4]; exact heap_alloc_last w4 _)
        have HX4 := Lib.hid (HX3.out.below hb34 HX3.out.cells.2.2.2.2.2.2)
        have HN4 := Lib.hid (HN3.out.below hb34 HN3.out.cells.2.2.2.2.2.2)
        have HB4 := Lib.hid (HB3.out.trans (hb34.mono HB3.out.size))
        have HST34 := Lib.hid (HST3.out.next hb34)
        have HST4 := Lib.hid (((hst4.more hb4.size).next hbW4))
        have HW4 := Lib.hid hW4
        obtain ⟨N4, hN4⟩ : ∃ N4, w4.heap.size = N4 := ⟨_, rfl⟩
        rw [hN4] at HY4
        have HN4' := Lib.hid hN4
        obtain ⟨q, hq⟩ : ∃ q, checkSc s = q := ⟨_, rfl⟩
        have hqq : (q == q) = true := by simp
        have hrr : (rs == rs) = true := by simp
        have S1 : Hid (∀ d os, Calls Tryd.prog 16 #[.agg #[.string (str s.name), .int .i64 s.ramp, .slice As s.stages.length cs]] (grow (redrawn W4 d) os) fun e w' => e = .returned (.int .i64 q) ∧ Below (grow (redrawn W4 d) os).heap.size (grow (redrawn W4 d) os) w') := fun d os =>
          (scCheck_any s As cs _ ((HSC.out.1.next HB4.out).next (below_regrown W4 d os)) (by have := HSM.out.1; omega)).mono fun e w' ⟨he, hb⟩ => ⟨by rw [he, hq], hb⟩
        have S2 : Hid (∀ d os, Calls Tryd.prog 17 #[.agg #[.string (str s.name), .int .i64 s.ramp, .slice As s.stages.length cs]] (grow (redrawn W4 d) os) fun e w' => e = .returned (.int .i64 q) ∧ Below (grow (redrawn W4 d) os).heap.size (grow (redrawn W4 d) os) w') := fun d os =>
          (rCheck_any s As cs _ ((HSC.out.1.next HB4.out).next (below_regrown W4 d os)) (by have := HSM.out.1; omega)).mono fun e w' ⟨he, hb⟩ => ⟨by rw [he, hq], hb⟩
        have S3 : Hid (∀ d os, Calls Tryd.prog 18 #[.agg #[.string (str y.name), .int .i64 y.ramp, .slice A3 y.stages.length c3], .agg #[.string (str y.name), .int .i64 y.ramp, .slice A4 y.stages.length c4]] (grow (redrawn W4 d) os) fun e w' => e = .returned (.bool true) ∧ Below (grow (redrawn W4 d) os).heap.size (grow (redrawn W4 d) os) w') := fun d os =>
          sameSc_any y A3 A4 c3 c4 _ (HST34.out.next (below_regrown W4 d os)) (HST4.out.next (below_regrown W4 d os))
        have S4 : Hid (∀ d os, Calls Tryd.prog 13 #[] (grow (redrawn W4 d) os) fun e w' => e = .returned (.bool true) ∧ Below (grow (redrawn W4 d) os).heap.size (grow (redrawn W4 d) os) w') := fun d os =>
          awakeS_any _ ((HV.out.to2 HB4.out).to2 (below_regrown W4 d os))
        have y0 : ∀ d os, (grow (redrawn W4 d) os).cell? ⟨w.heap.size, 0, none⟩ = some (.string (str s.name)) := fun d os => (is_sc_cells HN4.out d os).1
        have y1 : ∀ d os, (grow (redrawn W4 d) os).cell? ⟨w.heap.size, 1, none⟩ = some (.int .i64 s.ramp) := fun d os => (is_sc_cells HN4.out d os).2.1
        have y2 : ∀ d os, (grow (redrawn W4 d) os).cell? ⟨w.heap.size, 2, none⟩ = some (.slice As s.stages.length cs) := fun d os => (is_sc_cells HN4.out d os).2.2
        have x0 : ∀ d os, (grow (redrawn W4 d) os).cell? ⟨N3, 0, none⟩ = some (.string (str y.name)) := fun d os => (is_sc_cells HX4.out d os).1
        have x1 : ∀ d os, (grow (redrawn W4 d) os).cell? ⟨N3, 1, none⟩ = some (.int .i64 y.ramp) := fun d os => (is_sc_cells HX4.out d os).2.1
        have x2 : ∀ d os, (grow (redrawn W4 d) os).cell? ⟨N3, 2, none⟩ = some (.slice A3 y.stages.length c3) := fun d os => (is_sc_cells HX4.out d os).2.2
        have z0 : ∀ d os, (grow (redrawn W4 d) os).cell? ⟨N4, 0, none⟩ = some (.string (str y.name)) := fun d os => (is_sc_cells HY4.out d os).1
        have z1 : ∀ d os, (grow (redrawn W4 d) os).cell? ⟨N4, 1, none⟩ = some (.int .i64 y.ramp) := fun d os => (is_sc_cells HY4.out d os).2.1
        have z2 : ∀ d os, (grow (redrawn W4 d) os).cell? ⟨N4, 2, none⟩ = some (.slice A4 y.stages.length c4) := fun d os => (is_sc_cells HY4.out d os).2.2
        clear hb4 hst4 hbW4 hb34 hW4 hN4 hr hrs hq hx3 hy4
        go_wp2_with fail
        rw [HW4.out, HN4'.out]
        refine wp_region_quiet_below (by kernel_rfl) (by kernel_rfl) ?_
        repeat (first
          | (open Go.BigFrame in go_big_quiet_step ((first | (with_reducible exact Calls.regrown_of (S1.out _ _)) | (with_reducible exact Calls.regrown_of (S2.out _ _)) | (with_reducible exact Calls.regrown_of (S3.out _ _)) | (with_reducible exact Calls.regrown_of (S4.out _ _)))))
          | (quiet_step ((first | (with_reducible exact Calls.regrown_of (S1.out _ _)) | (with_reducible exact Calls.regrown_of (S2.out _ _)) | (with_reducible exact Calls.regrown_of (S3.out _ _)) | (with_reducible exact Calls.regrown_of (S4.out _ _))))))
        refine wpQuiet_nil ?_
        rintro w6 ⟨p6, hw6⟩
        have HBX := Lib.hid (HB4.out.trans ((show Below W4.heap.size W4 w6 by rw [hw6]; exact below_regrown _ _ _).mono HB4.out.size))
        clear hw6 y0 y1 y2 z0 z1 z2 x0 x1 x2
        go_wp2_with fail
        go_ret
        exact ⟨rfl, HBX.out⟩

end Go.Proofs.YtabdlldkkcjppaaDoor
