/-
  The contracts of sawmillref37's from, Check, Ends, Target, Find.
  The contracts of sawmillref37's Check and Find.
  The contracts of sawmillref37's last, Valid, decimal.
-/
import Derived.Test.YtabdlldkkcjppaaDoorScN
import Derived.Test.YtabdlldkkcjppaaDoorScA
import Derived.Test.YtabdlldkkcjppaaDoorWRefB
import Derived.Test.YtabdlldkkcjppaaDoorScE
import Derived.Lib.ItoaLen
import Derived.Deep.RegionHeld3
namespace Go.Proofs.YtabdlldkkcjppaaDoor
open Go.RowKit Saw

def fromP (n lo hi : Int) : Bool := decide (lo ≤ n) && decide (n ≤ hi)
theorem rfrom_any (n lo hi : Int) (w : World) : Calls Tryd.prog 35 #[.int .i64 n, .int .i64 lo, .int .i64 hi] w fun e w' => e = .returned (.bool (fromP n lo hi)) ∧ w = w' := by
  go_enter Tryd.func35, Tryd.ntmps35
  go_wp2
  all_goals
    go_ret
    refine ⟨ret_bool ?_, rfl⟩
    rw [Bool.eq_iff_iff]; simp [fromP]; try omega

set_option maxRecDepth 100000 in
set_option maxHeartbeats 1000000 in
theorem rends_any (s : Sc) (A : Option Addr) (c : Nat) (stage ticks mean : Int) (w : World) (hrd : RdSt w w.heap.size (.slice A s.stages.length c) s.stages) :
    Calls Tryd.prog 20 #[.agg #[.string (str s.name), .int .i64 s.ramp, .slice A s.stages.length c], .int .i64 stage, .int .i64 ticks, .int .i64 mean] w (EndsPost (endsSc s stage ticks mean) w) := by
  obtain ⟨_, _, he, hc, hml⟩ := hrd.form
  clear he hc
  unfold maxLen at hml
  by_cases h1 : stage < 0
  · rw [endsSc_out (.inl h1)]
    clear hrd
    go_enter Tryd.func20, Tryd.ntmps20
    go_wp2_with fail
    go_ret2
    exact ⟨rfl, (Below.refl _ _).alloc (Nat.le_refl _) _⟩
  · by_cases h2 : (s.stages.length : Int) ≤ stage
    · rw [endsSc_out (.inr h2)]
      clear hrd
      go_enter Tryd.func20, Tryd.ntmps20
      go_wp2_with fail
      go_ret2
      exact ⟨rfl, (Below.refl _ _).alloc (Nat.le_refl _) _⟩
    · obtain ⟨k, rfl⟩ : ∃ k : Nat, stage = k := ⟨stage.toNat, by omega⟩
      have hk : k < s.stages.length := by omega
      have hx : s.stages[k]? = some s.stages[k] := List.getElem?_eq_getElem hk
      obtain ⟨x, hxe⟩ : ∃ x, s.stages[k] = x := ⟨_, rfl⟩
      rw [hxe] at hx
      rw [endsSc_in hx]
      obtain ⟨b, off, rfl, hbl, q0, q1, q2, q3⟩ := RdSt.at_ hrd hx
      clear hxe hx hrd h1
      by_cases h3 : (0 < x.below ∧ mean ≤ x.below) ∨ (0 < x.ticks ∧ x.ticks ≤ ticks)
      · rw [if_pos h3]
        go_enter Tryd.func20, Tryd.ntmps20
        go_wp2
        all_goals first
          | omega
          | (go_ret2; exact ⟨rfl, ((Below.refl _ _).alloc (Nat.le_refl _) _).alloc (by rw [World.size_alloc]; omega) _⟩)
      · rw [if_neg h3]
        go_enter Tryd.func20, Tryd.ntmps20
        go_wp2
        all_goals first
          | omega
          | (go_ret2; exact ⟨rfl, ((Below.refl _ _).alloc (Nat.le_refl _) _).alloc (by rw [World.size_alloc]; omega) _⟩)

set_option maxRecDepth 100000 in
set_option maxHeartbeats 1000000 in
theorem rtarget_any (s : Sc) (A : Option Addr) (c : Nat) (stage : Int) (y : Sp) (w : World) (hrd : RdSt w w.heap.size (.slice A s.stages.length c) s.stages) :
    Calls Tryd.prog 22 #[.agg #[.string (str s.name), .int .i64 s.ramp, .slice A s.stages.length c], .int .i64 stage, .agg #[.string (str y.name), .int .i64 y.green, .int .i64 y.fast, .int .i64 y.slow, .int .i64 y.safe, .int .i64 y.grad, .int .i64 y.crack, .int .i64 y.temp, .int .i64 y.depress, .int .i64 y.density, .int .i64 y.stiff, .int .i64 y.knots, .int .i64 y.shrink]] w (TargetPost (targetP s stage y.temp y.depress) w) := by
  obtain ⟨_, _, he, hc, hml⟩ := hrd.form
  clear he hc
  unfold maxLen at hml
  by_cases h1 : stage < 0
  · rw [targetP_out (.inl h1)]
    clear hrd
    go_enter Tryd.func22, Tryd.ntmps22
    go_wp2_with fail
    refine bodyPost_ret (v := .agg #[.int .i64 0, .int .i64 0]) (by simp [results, Tryd.results22, go_sem]) rfl ⟨rfl, ?_⟩
    exact (((Below.refl _ _).alloc (Nat.le_refl _) _).alloc (by rw [World.size_alloc]; omega) _).alloc (by rw [World.size_alloc, World.size_alloc]; omega) _
  · by_cases h2 : (s.stages.length : Int) ≤ stage
    · rw [targetP_out (.inr h2)]
      clear hrd
      go_enter Tryd.func22, Tryd.ntmps22
      go_wp2_with fail
      refine bodyPost_ret (v := .agg #[.int .i64 0, .int .i64 0]) (by simp [results, Tryd.results22, go_sem]) rfl ⟨rfl, ?_⟩
      exact (((Below.refl _ _).alloc (Nat.le_refl _) _).alloc (by rw [World.size_alloc]; omega) _).alloc (by rw [World.size_alloc, World.size_alloc]; omega) _
    · obtain ⟨k, rfl⟩ : ∃ k : Nat, stage = k := ⟨stage.toNat, by omega⟩
      have hk : k < s.stages.length := by omega
      have hx : s.stages[k]? = some s.stages[k] := List.getElem?_eq_getElem hk
      obtain ⟨x, hxe⟩ : ∃ x, s.stages[k] = x := ⟨_, rfl⟩
      rw [hxe] at hx
      rw [targetP_in hx]
      obtain ⟨b, off, rfl, hbl, q0, q1, q2, q3⟩ := RdSt.at_ hrd hx
      have hb1 : b < w.heap.size + 1 := by omega
      have hb2 : b < w.heap.size + 1 + 1 := by omega
      have hb3 : b < w.heap.size + 1 + 1 + 1 := by omega
      clear hxe hx hrd h1
      go_enter Tryd.func22, Tryd.ntmps22
      go_wp2_with fail
      go_region
      all_goals
        go_wp2_with fail
        refine bodyPost_ret (v := .agg #[.int .i64 (min x.temp y.temp), .int .i64 (min x.dep y.depress)]) (by simp [results, Tryd.results22, go_sem] <;> omega) rfl ⟨rfl, ?_⟩
        first
          | exact bel_alloc (bel_alloc (bel_alloc (Below.refl _ _)))
          | exact (bel_alloc (bel_alloc (bel_alloc (Below.refl _ _)))).drew

end Go.Proofs.YtabdlldkkcjppaaDoor

namespace Saw
theorem soundP_no {x : Stg} (h : ¬ (0 ≤ x.below ∧ x.below ≤ 20000 ∧ 0 ≤ x.ticks ∧ x.ticks ≤ 10000 ∧ (x.below ≠ 0 ∨ x.ticks ≠ 0) ∧ 200 ≤ x.temp ∧ x.temp ≤ 1200 ∧ 0 ≤ x.dep ∧ x.dep ≤ 400)) : soundP x = false := by
  cases hs : soundP x with
  | false => rfl
  | true => exact absurd (soundP_iff.1 hs) h
end Saw
namespace Go.Proofs.YtabdlldkkcjppaaDoor
open Go.RowKit Saw
theorem bel_setB {B : Nat} {w W : World} {g j : Nat} {v : Value} (h : Below B w W) (hg : B ≤ g) : Below B w (W.setCell ⟨g, j, none⟩ v) := h.setCell hg _
theorem fromP_t {n lo hi : Int} (h : fromP n lo hi = true) : lo ≤ n ∧ n ≤ hi := by simpa [fromP] using h
theorem fromP_f {n lo hi : Int} (h : fromP n lo hi = false) : ¬ (lo ≤ n ∧ n ≤ hi) := fun h9 => by rw [fromP, decide_eq_true h9.1, decide_eq_true h9.2] at h; cases h

set_option maxRecDepth 100000 in
set_option maxHeartbeats 2000000 in
theorem rCheck_any (s : Sc) (A : Option Addr) (c : Nat) (w : World) (hrd : RdSt w w.heap.size (.slice A s.stages.length c) s.stages) (hnm : s.name.length ≤ 1000000) :
    Calls Tryd.prog 17 #[.agg #[.string (str s.name), .int .i64 s.ramp, .slice A s.stages.length c]] w (IntB (checkSc s) w) := by
  obtain ⟨_, _, he, hc, hml⟩ := hrd.form
  clear he hc
  unfold maxLen at hml
  obtain ⟨r, hr⟩ : ∃ r, checkSc s = r := ⟨_, rfl⟩
  rw [hr]
  unfold checkSc at hr
  have HRD := Lib.hid hrd
  clear hrd
  have HNL := Lib.hid hnm
  clear hnm
  go_enter Tryd.func17, Tryd.ntmps17
  go_wp2_with fail
  refine (refIsName_any _ _ (by rw [size_str]; have := HNL.out; omega)).mono ?_
  rintro e w1 ⟨he, rfl⟩
  rw [bts_str] at he
  cases hn : isNameP s.name with
  | false =>
    rw [hn] at he
    subst he
    rw [if_pos hn] at hr
    subst hr
    clear hn
    go_wp2_with fail
    go_ret
    exact ⟨rfl, bel_alloc (Below.refl _ _)⟩
  | true =>
    rw [hn] at he
    subst he
    rw [if_neg (by rw [hn]; decide)] at hr
    clear hn
    go_wp2_with fail
    refine (rfrom_any s.ramp 1 1200 _).mono ?_
    rintro e w1 ⟨he, rfl⟩
    cases hf : fromP s.ramp 1 1200 with
    | false =>
      rw [hf] at he
      subst he
      rw [if_pos (by have := fromP_f hf; omega)] at hr
      subst hr
      clear hf
      go_wp2_with fail
      go_ret
      exact ⟨rfl, bel_alloc (Below.refl _ _)⟩
    | true =>
      rw [hf] at he
      subst he
      rw [if_neg (by have := fromP_t hf; omega)] at hr
      clear hf
      by_cases h3 : s.stages.length = 0
      · rw [if_pos h3] at hr
        subst hr
        have h3' : ((s.stages.length : Int) == 0) = true := by rw [beq_iff_eq]; omega
        clear h3
        go_wp2_with fail
        go_ret
        exact ⟨rfl, bel_alloc (Below.refl _ _)⟩
      · rw [if_neg h3] at hr
        have h3' : ((s.stages.length : Int) == 0) = false := by rw [beq_eq_false_iff_ne]; omega
        by_cases h4 : 12 < s.stages.length
        · rw [if_pos h4] at hr
          subst hr
          go_wp2_with fail
          go_ret
          exact ⟨rfl, bel_alloc (Below.refl _ _)⟩
        · rw [if_neg h4] at hr
          have HR := Lib.hid hr
          clear hr
          go_wp2_with fail
          go_loopw [3] (fun i wr => ∃ k : Nat, k ≤ s.stages.length ∧ i = .int .i64 k ∧ (if (s.stages.drop k).all soundP then (0 : Int) else 9) = r ∧ Below w.heap.size w wr ∧ wr.cell? ⟨w.heap.size, 2, none⟩ = some (.slice A s.stages.length c) ∧ w.heap.size < wr.heap.size) (fun i _ => s.stages.length - (intOf i).toNat)
          case atStart => exact ⟨0, by omega, rfl, by rw [List.drop_zero]; exact HR.out, bel_alloc (Below.refl _ _), cell_of_box (heap_alloc_last w _) rfl, by rw [World.size_alloc]; omega⟩
          case round =>
            obtain ⟨k, hk, rfl, hrk, hb, hc2, hsw⟩ := hrel
            have HB := Lib.hid hb
            have hsz := hb.size
            clear hb
            by_cases hlt : k < s.stages.length
            · have hx : s.stages[k]? = some s.stages[k] := List.getElem?_eq_getElem hlt
              obtain ⟨x, hxe⟩ : ∃ x, s.stages[k] = x := ⟨_, rfl⟩
              rw [hxe] at hx
              rw [all_drop hx] at hrk
              obtain ⟨b, off, rfl, hbl, q0, q1, q2, q3⟩ := RdSt.at_ (HRD.out.below HB.out) hx
              have HK := Lib.hid hrk
              have HW := Lib.hid (show ∀ o : Obj, (wr.alloc o).cell? ⟨w.heap.size, 2, none⟩ = some (.slice (some ⟨b, off, none⟩) s.stages.length c) ∧ w.heap.size < (wr.alloc o).heap.size from fun o => ⟨(World.cell?_alloc_old wr o ⟨w.heap.size, 2, none⟩ (Nat.ne_of_lt hsw)).trans hc2, by rw [World.size_alloc]; omega⟩)
              clear hxe hx hrk
              go_wp2_with fail
              refine (rfrom_any x.below 0 20000 _).mono ?_
              rintro e w1 ⟨he, rfl⟩
              cases hf0 : fromP x.below 0 20000 with
              | false =>
                rw [hf0] at he
                subst he
                have hq0 := fromP_f hf0
                clear hf0
                have hs9 : soundP x = false := soundP_no (by omega)
                have hr9 : r = 9 := by have h9 := HK.out; rw [hs9, Bool.false_and, if_neg (by decide)] at h9; exact h9.symm
                subst hr9
                clear hs9
                go_wp2_with fail
                go_ret
                exact ⟨rfl, bel_alloc HB.out⟩
              | true =>
                rw [hf0] at he
                subst he
                have hq0 := fromP_t hf0
                clear hf0
                go_wp2_with fail
                refine (rfrom_any x.ticks 0 10000 _).mono ?_
                rintro e w1 ⟨he, rfl⟩
                cases hf1 : fromP x.ticks 0 10000 with
                | false =>
                  rw [hf1] at he
                  subst he
                  have hq1 := fromP_f hf1
                  clear hf1
                  have hs9 : soundP x = false := soundP_no (by omega)
                  have hr9 : r = 9 := by have h9 := HK.out; rw [hs9, Bool.false_and, if_neg (by decide)] at h9; exact h9.symm
                  subst hr9
                  clear hs9
                  go_wp2_with fail
                  go_ret
                  exact ⟨rfl, bel_alloc HB.out⟩
                | true =>
                  rw [hf1] at he
                  subst he
                  have hq1 := fromP_t hf1
                  clear hf1
                  by_cases hz : x.below = 0 ∧ x.ticks = 0
                  · have hz1 : (x.below == 0) = true := by rw [hz.1]; rfl
                    have hz2 : (x.ticks == 0) = true := by rw [hz.2]; rfl
                    have hs9 : soundP x = false := soundP_no (by omega)
                    have hr9 : r = 9 := by have h9 := HK.out; rw [hs9, Bool.false_and, if_neg (by decide)] at h9; exact h9.symm
                    subst hr9
                    clear hs9
                    go_wp2_with fail
                    go_ret
                    exact ⟨rfl, bel_alloc HB.out⟩
                  · by_cases hy : x.below = 0
                    · have hz1 : (x.below == 0) = true := by rw [hy]; rfl
                      have hz2 : (x.ticks == 0) = false := by rw [beq_eq_false_iff_ne]; exact fun h => hz ⟨hy, h⟩
                      go_wp2_with fail
                      refine (rfrom_any x.temp 200 1200 _).mono ?_
                      rintro e w1 ⟨he, rfl⟩
                      cases hf3 : fromP x.temp 200 1200 with
                      | false =>
                        rw [hf3] at he
                        subst he
                        have hq3 := fromP_f hf3
                        clear hf3
                        have hs9 : soundP x = false := soundP_no (by omega)
                        have hr9 : r = 9 := by have h9 := HK.out; rw [hs9, Bool.false_and, if_neg (by decide)] at h9; exact h9.symm
                        subst hr9
                        clear hs9
                        go_wp2_with fail
                        go_ret
                        exact ⟨rfl, bel_alloc HB.out⟩
                      | true =>
                        rw [hf3] at he
                        subst he
                        have hq3 := fromP_t hf3
                        clear hf3
                        go_wp2_with fail
                        refine (rfrom_any x.dep 0 400 _).mono ?_
                        rintro e w1 ⟨he, rfl⟩
                        cases hf4 : fromP x.dep 0 400 with
                        | false =>
                          rw [hf4] at he
                          subst he
                          have hq4 := fromP_f hf4
                          clear hf4
                          have hs9 : soundP x = false := soundP_no (by omega)
                          have hr9 : r = 9 := by have h9 := HK.out; rw [hs9, Bool.false_and, if_neg (by decide)] at h9; exact h9.symm
                          subst hr9
                          clear hs9
                          go_wp2_with fail
                          go_ret
                          exact ⟨rfl, bel_alloc HB.out⟩
                        | true =>
                          rw [hf4] at he
                          subst he
                          have hq4 := fromP_t hf4
                          clear hf4
                          have hs9 : soundP x = true := soundP_iff.2 (by omega)
                          have HN := Lib.hid (show (if (s.stages.drop (k + 1)).all soundP then (0 : Int) else 9) = r by have h9 := HK.out; rw [hs9, Bool.true_and] at h9; exact h9)
                          clear hs9
                          go_wp2_with fail
                          exact ⟨⟨k + 1, by omega, by go_num, HN.out, bel_alloc HB.out, (HW.out _).1, (HW.out _).2⟩, by simp [intOf]; omega⟩
                    · have hz1 : (x.below == 0) = false := by rw [beq_eq_false_iff_ne]; exact hy
                      go_wp2_with fail
                      refine (rfrom_any x.temp 200 1200 _).mono ?_
                      rintro e w1 ⟨he, rfl⟩
                      cases hf3 : fromP x.temp 200 1200 with
                      | false =>
                        rw [hf3] at he
                        subst he
                        have hq3 := fromP_f hf3
                        clear hf3
                        have hs9 : soundP x = false := soundP_no (by omega)
                        have hr9 : r = 9 := by have h9 := HK.out; rw [hs9, Bool.false_and, if_neg (by decide)] at h9; exact h9.symm
                        subst hr9
                        clear hs9
                        go_wp2_with fail
                        go_ret
                        exact ⟨rfl, bel_alloc HB.out⟩
                      | true =>
                        rw [hf3] at he
                        subst he
                        have hq3 := fromP_t hf3
                        clear hf3
                        go_wp2_with fail
                        refine (rfrom_any x.dep 0 400 _).mono ?_
                        rintro e w1 ⟨he, rfl⟩
                        cases hf4 : fromP x.dep 0 400 with
                        | false =>
                          rw [hf4] at he
                          subst he
                          have hq4 := fromP_f hf4
                          clear hf4
                          have hs9 : soundP x = false := soundP_no (by omega)
                          have hr9 : r = 9 := by have h9 := HK.out; rw [hs9, Bool.false_and, if_neg (by decide)] at h9; exact h9.symm
                          subst hr9
                          clear hs9
                          go_wp2_with fail
                          go_ret
                          exact ⟨rfl, bel_alloc HB.out⟩
                        | true =>
                          rw [hf4] at he
                          subst he
                          have hq4 := fromP_t hf4
                          clear hf4
                          have hs9 : soundP x = true := soundP_iff.2 (by omega)
                          have HN := Lib.hid (show (if (s.stages.drop (k + 1)).all soundP then (0 : Int) else 9) = r by have h9 := HK.out; rw [hs9, Bool.true_and] at h9; exact h9)
                          clear hs9
                          go_wp2_with fail
                          exact ⟨⟨k + 1, by omega, by go_num, HN.out, bel_alloc HB.out, (HW.out _).1, (HW.out _).2⟩, by simp [intOf]; omega⟩
            · have hr0 : r = 0 := by
                rw [List.drop_eq_nil_of_le (by omega), List.all_nil, if_pos rfl] at hrk
                exact hrk.symm
              subst hr0
              clear hrk HR
              go_wp2_with fail
              go_ret
              exact ⟨rfl, HB.out⟩
/-- What Find returns: its stages are those of the list. -/
def RFindPost (_l : List Sc) (r : Option Sc) (w : World) (e : Ending) (w' : World) : Prop := ∃ x A c, r.getD Sc.zero = x ∧ e = .returned (.tuple #[.agg #[.string (str x.name), .int .i64 x.ramp, .slice A x.stages.length c], .bool r.isSome]) ∧ RdSt w' w.heap.size (.slice A x.stages.length c) x.stages ∧ Below w.heap.size w w'

set_option maxRecDepth 100000 in
set_option maxHeartbeats 1000000 in
theorem rFind_any (l : List Sc) (v : Value) (nm : List UInt8) (w : World) (hrd : RdSc w w.heap.size v l) :
    Calls Tryd.prog 15 #[v, .string (str nm)] w (RFindPost l (findSc l nm) w) := by
  obtain ⟨A, c, rfl, hc, hml⟩ := hrd.form
  obtain ⟨r, hr⟩ : ∃ r, findSc l nm = r := ⟨_, rfl⟩
  rw [hr]
  unfold maxLen at hml
  have HR := Lib.hid hr
  have HRD := Lib.hid hrd
  clear hr hrd
  go_enter Tryd.func15, Tryd.ntmps15
  go_wp2_with fail
  obtain ⟨W, hW⟩ : ∃ W, w.alloc (.cells #[.string ⟨#[]⟩, .int .i64 0, .slice none 0 0] 24) = W := ⟨_, rfl⟩
  have hb0 : Below w.heap.size w W := by rw [← hW]; exact bel_alloc (Below.refl _ _)
  have hg0 : IsSc W w.heap.size Sc.zero (.slice none 0 0) := by rw [← hW]; exact heap_alloc_last w _
  rw [hW]
  clear hW
  go_loopw [6] (fun i wr => ∃ k : Nat, k ≤ l.length ∧ i = .int .i64 k ∧ findSc (l.drop k) nm = r ∧ wr = W) (fun i _ => l.length - (intOf i).toNat)
  case atStart => exact ⟨0, by omega, rfl, by rw [List.drop_zero]; exact HR.out, rfl⟩
  case round =>
    obtain ⟨k, hk, rfl, hrk, rfl⟩ := hrel
    have HB := Lib.hid hb0
    have HG := Lib.hid hg0
    obtain ⟨g0, g1, g2, z0, z1, z2, hgl⟩ := hg0.cells
    clear hb0 hg0
    by_cases hlt : k < l.length
    · have hx : l[k]? = some l[k] := List.getElem?_eq_getElem hlt
      obtain ⟨x, hxe⟩ : ∃ x, l[k] = x := ⟨_, rfl⟩
      rw [hxe] at hx
      have hr2 := findSc_drop hx hrk
      obtain ⟨b, off, A1, c1, rfl, hbl, hm1, hm2, hst, q0, q1, q2⟩ := RdSc.at_ (HRD.out.below HB.out) hx
      have HST := Lib.hid hst
      have hne : b ≠ w.heap.size := by omega
      have hne' : w.heap.size ≠ b := by omega
      have ht := str_eqb x.name nm
      clear hst hrk hx hxe
      cases hn : (x.name == nm) with
      | true =>
        rw [hn] at ht hr2
        obtain rfl := hr2.1 rfl
        clear hn
        go_wp2_with fail
        have hput := IsSc.put HG.out x (.slice A1 x.stages.length c1)
        have HP := Lib.hid (rangeAt_block hput)
        have HBF := Lib.hid (bel_setB (g := w.heap.size) (j := 2) (v := .slice A1 x.stages.length c1) (bel_setB (g := w.heap.size) (j := 1) (v := .int .i64 x.ramp) (bel_setB (g := w.heap.size) (j := 0) (v := .string (str x.name)) HB.out (Nat.le_refl _)) (Nat.le_refl _)) (Nat.le_refl _))
        clear hput
        refine bodyPost_ret (v := .tuple #[.agg #[.string (str x.name), .int .i64 x.ramp, .slice A1 x.stages.length c1], .bool true]) ?_ rfl ⟨x, A1, c1, rfl, rfl, ?_, HBF.out⟩
        · exact results_cell2 Tryd.results15 _ _ w.heap.size 0 [.string (str x.name), .int .i64 x.ramp, .slice A1 x.stages.length c1] rfl HP.out Tryd.underlying24 rfl sc_info _ rfl
        · exact HST.out.below (bel_setB (bel_setB (bel_setB (Below.refl w.heap.size _) (Nat.le_refl _)) (Nat.le_refl _)) (Nat.le_refl _))
      | false =>
        rw [hn] at ht hr2
        have HN := Lib.hid (hr2.2 rfl)
        clear hn hr2
        go_wp2_with fail
        exact ⟨⟨k + 1, by omega, by go_num, HN.out, by first | trivial | rfl⟩, by simp [intOf]; omega⟩
    · rw [List.drop_eq_nil_of_le (by omega)] at hrk
      have hr0 : r = none := hrk.symm
      subst hr0
      clear hrk
      go_wp2_with fail
      have hput := IsSc.put HG.out Sc.zero (.slice none 0 0)
      have HP := Lib.hid (rangeAt_block hput)
      refine bodyPost_ret (v := .tuple #[.agg #[.string (str []), .int .i64 0, .slice none 0 0], .bool false]) ?_ rfl ⟨Sc.zero, none, 0, rfl, rfl, RdSt.nil _ _, ?_⟩
      · exact results_cell2 Tryd.results15 _ _ w.heap.size 0 [.string (str []), .int .i64 0, .slice none 0 0] rfl HP.out Tryd.underlying24 rfl sc_info _ rfl
      · exact bel_setB (bel_setB (bel_setB HB.out (Nat.le_refl _)) (Nat.le_refl _)) (Nat.le_refl _)

end Go.Proofs.YtabdlldkkcjppaaDoor

namespace Saw
theorem lastErr_zero {l : List Sc} {x : Sc} : lastErr l x = 0 ↔ l.length < 8 ∧ checkSc x = 0 ∧ findSc l x.name = none := by
  unfold lastErr
  by_cases h1 : 8 ≤ l.length
  · rw [if_pos h1]
    exact ⟨fun h => absurd h (by decide), fun h => by omega⟩
  · rw [if_neg h1]
    by_cases h2 : checkSc x ≠ 0
    · rw [if_pos h2]
      exact ⟨fun h => absurd h h2, fun h => absurd h.2.1 h2⟩
    · rw [if_neg h2]
      cases hf : findSc l x.name with
      | none => exact ⟨fun _ => ⟨by omega, Decidable.not_not.1 h2, rfl⟩, fun _ => rfl⟩
      | some y => exact ⟨fun h => (by cases h), fun h => (by cases h.2.2)⟩
theorem validP_last {l : List Sc} : validP l = true ↔ ∀ (i : Nat) (x : Sc), l[i]? = some x → lastErr (l.take i) x = 0 := by
  refine ⟨fun h i x hx => ?_, fun h => validP_of ?_ (fun i x hx => (lastErr_zero.1 (h i x hx)).2)⟩
  · obtain ⟨h1, h2⟩ := validP_all h
    have hi := (List.getElem?_eq_some_iff.1 hx).1
    exact lastErr_zero.2 ⟨by rw [List.length_take]; omega, h2 i x hx⟩
  · by_cases h8 : l.length ≤ 8
    · exact h8
    · have hx : l[8]? = some l[8] := List.getElem?_eq_getElem (by omega)
      have := (lastErr_zero.1 (h 8 _ hx)).1
      rw [List.length_take] at this
      omega
theorem take_snoc {l : List Sc} {k : Nat} {x : Sc} (hx : l[k]? = some x) : l.take (k + 1) = l.take k ++ [x] := by
  obtain ⟨hk, he⟩ := List.getElem?_eq_some_iff.1 hx
  rw [List.take_succ_eq_append_getElem hk, he]
end Saw
namespace Go.Proofs.YtabdlldkkcjppaaDoor
open Go.RowKit Saw Go.Sort

theorem dec_lenS (u : Nat) (h : u ≤ 1000000000000000) : (Lib.decDigits u).length ≤ 21 := by
  have := Lib.itoa_length_le (u : Int) (by omega) (by omega)
  unfold Lib.itoa at this
  rw [if_neg (by omega)] at this
  simpa using this
theorem conv_oneS (w : World) (u : Nat) :
    (convert 62 9 (.slice (some ⟨w.heap.size, 0, none⟩) 1 1)).run Tryd.prog (w.alloc (.cells #[.int .u8 (48 + (u : Int) % 10)] 5)) = .ok (.string (str [UInt8.ofNat (48 + u % 10)])) (w.alloc (.cells #[.int .u8 (48 + (u : Int) % 10)] 5)) := by
  refine run_convert_bytes_back _ _ _ 5 ⟨w.heap.size, 0, none⟩ 1 [UInt8.ofNat (48 + u % 10)] Tryd.underlying62 Tryd.underlying5 Tryd.underlying9 ?_
  intro j hj
  obtain rfl : j = 0 := by simpa using hj
  have hm : (UInt8.ofNat (48 + u % 10)).toNat = 48 + u % 10 := by rw [UInt8.toNat_ofNat']; omega
  have h0 := rangeAt_block (heap_alloc_last w (.cells #[.int .u8 (48 + (u : Int) % 10)] 5)) 0 _ rfl
  simp only [List.getElem_cons_zero, hm]
  refine Eq.trans h0 ?_
  congr 2

set_option maxRecDepth 100000 in
set_option maxHeartbeats 1000000 in
theorem decS_any (u : Nat) : u ≤ 1000000000000000 → ∀ w, Calls Tryd.prog 42 #[.int .i64 u] w fun e w' => e = .returned (.string (str (Lib.decDigits u))) ∧ Below w.heap.size w w' := by
  induction u using Nat.strongRecOn with
  | _ u ih =>
    intro hu w
    have hcv := conv_oneS w u
    by_cases h10 : u < 10
    · rw [Lib.decDigits_one h10]
      clear ih
      rw [show u % 10 = u from Nat.mod_eq_of_lt h10] at hcv
      obtain ⟨d, hd⟩ : ∃ d, UInt8.ofNat (48 + u) = d := ⟨_, rfl⟩
      rw [hd] at hcv ⊢
      clear hd
      go_enter Tryd.func42, Tryd.ntmps42
      go_wp2_with fail
      go_ret
      exact ⟨rfl, (Below.refl _ _).alloc (Nat.le_refl _) _⟩
    · have IH : Hid (∀ W, Calls Tryd.prog 42 #[.int .i64 ((u : Int) / 10)] W fun e w' => e = .returned (.string (str (Lib.decDigits (u / 10)))) ∧ Below W.heap.size W w') := fun W => ih (u / 10) (by omega) (by omega) W
      have HD := Lib.hid (show Lib.decDigits u = Lib.decDigits (u / 10) ++ [UInt8.ofNat (48 + u % 10)] by rw [Lib.decDigits, dif_neg h10])
      have hl := dec_lenS (u / 10) (by omega)
      obtain ⟨s, hs⟩ : ∃ s, Lib.decDigits (u / 10) = s := ⟨_, rfl⟩
      obtain ⟨d, hd⟩ : ∃ d, UInt8.ofNat (48 + u % 10) = d := ⟨_, rfl⟩
      rw [hs] at hl HD IH
      rw [hd] at HD hcv
      have hz : (str s).size ≤ 21 := by rw [size_str]; exact hl
      have hz1 : (str [d]).size = 1 := rfl
      clear ih hs hd hl
      go_enter Tryd.func42, Tryd.ntmps42
      go_wp2_with fail
      refine (IH.out _).mono ?_
      rintro e w1 ⟨rfl, hb1⟩
      have HB1 := Lib.hid (((Below.refl _ _).alloc (Nat.le_refl _) _).trans (hb1.mono (by rw [World.size_alloc]; omega)))
      clear hb1 hcv
      go_wp2_with fail
      go_ret
      refine ⟨?_, HB1.out⟩
      rw [HD.out, ← str_append]
      rfl
theorem decS_itoa (n : Int) (h0 : 0 ≤ n) (h1 : n ≤ 1000000000000000) (w : World) : Calls Tryd.prog 42 #[.int .i64 n] w fun e w' => e = .returned (.string (str (Lib.itoa n))) ∧ Below w.heap.size w w' := by
  obtain ⟨u, rfl⟩ := Int.eq_ofNat_of_zero_le h0
  have := decS_any u (by omega) w
  rw [Lib.itoa, if_neg (by omega), Int.toNat_natCast]
  exact this

set_option maxRecDepth 100000 in
set_option maxHeartbeats 1000000 in
theorem rlast_any (acc : List Sc) (x : Sc) (v : Value) (w : World) (hrd : RdSc w w.heap.size v (acc ++ [x])) (hnm : x.name.length ≤ 1000000) :
    Calls Tryd.prog 48 #[v] w (IntB (lastErr acc x) w) := by
  obtain ⟨A, c, rfl, hc, hml⟩ := hrd.form
  have hx : (acc ++ [x])[acc.length]? = some x := by rw [List.getElem?_append_right (Nat.le_refl _), Nat.sub_self]; rfl
  have hll : (acc ++ [x]).length = acc.length + 1 := by rw [List.length_append]; rfl
  obtain ⟨b, off, A1, c1, rfl, hbl, hm1, hm2, hst, q0, q1, q2⟩ := RdSc.at_ hrd hx
  have HTK := Lib.hid (RdSc.take hrd acc.length (by omega))
  rw [List.take_left' rfl] at HTK
  rw [hll] at hml hc ⊢
  have HST := Lib.hid hst
  obtain ⟨r, hr⟩ : ∃ r, lastErr acc x = r := ⟨_, rfl⟩
  rw [hr]
  have HNM := Lib.hid hnm
  unfold maxLen at hml
  unfold lastErr at hr
  have hi1 : ((acc.length + 1 : Nat) : Int) - 1 = acc.length := by omega
  clear hrd hx hst hll hnm hm1 hm2
  by_cases h8 : 8 ≤ acc.length
  · rw [if_pos h8] at hr
    subst hr
    go_enter Tryd.func48, Tryd.ntmps48
    go_wp2_with fail
    go_ret
    exact ⟨rfl, (Below.refl _ _).alloc (Nat.le_refl _) _⟩
  · rw [if_neg h8] at hr
    have HR := Lib.hid hr
    clear hr
    go_enter Tryd.func48, Tryd.ntmps48
    go_wp2_with fail
    refine (rCheck_any x A1 c1 _ (HST.out.next ((Below.refl _ _).alloc (Nat.le_refl _) _)) HNM.out).mono ?_
    rintro e w1 ⟨he, hb1⟩
    have hbw1 : Below w.heap.size w w1 := ((Below.refl _ _).alloc (Nat.le_refl _) _).trans (hb1.mono (by rw [World.size_alloc]; omega))
    have HB1 := Lib.hid hbw1
    have hsz1 := hbw1.size
    have hNl : w.heap.size < w1.heap.size := Nat.lt_of_lt_of_le (by rw [World.size_alloc]; omega) hb1.size
    have hc1 : w1.cell? ⟨w.heap.size, 0, none⟩ = some (.string (str x.name)) := (hb1.cell (p := ⟨w.heap.size, 0, none⟩) (by show w.heap.size < _; rw [World.size_alloc]; omega)).trans (by rw [World.cell?_alloc_at _ _ _ _ rfl]; rfl)
    obtain ⟨q, hq⟩ : ∃ q, checkSc x = q := ⟨_, rfl⟩
    rw [hq] at he
    subst he
    clear hb1 hbw1 q0 q1 q2
    by_cases hq0 : q = 0
    · subst hq0
      have HK1 := Lib.hid (show (if (findSc acc x.name).isSome then (7 : Int) else 0) = r by have h9 := HR.out; rw [hq] at h9; simpa using h9)
      clear hq HR
      go_wp2_with fail
      have hk1 : (0 : Int) ≤ (acc.length : Int) := by omega
      have hk2 : (acc.length : Int) ≤ (c : Int) := by omega
      have hw1 : IntKind.i64.wrap ((acc.length : Int) + 1 - 1) = acc.length := (IntWalk.i64_in _ (by omega)).trans (by omega)
      have hw2 : IntKind.i64.wrap (((acc.length + 1 : Nat) : Int) - 1) = acc.length := (IntWalk.i64_in _ (by omega)).trans (by omega)
      have hw3 : IntKind.i64.wrap (acc.length : Int) = acc.length := IntWalk.i64_in _ (by omega)
      obtain ⟨N, hN⟩ : ∃ N, w.heap.size = N := ⟨_, rfl⟩
      rw [hN] at hNl hc1
      obtain ⟨rr, hrr⟩ : ∃ rr, findSc acc x.name = rr := ⟨_, rfl⟩
      obtain ⟨q, hq⟩ : ∃ q, rr.isSome = q := ⟨_, rfl⟩
      have HF : Hid (∀ W, Below w1.heap.size w1 W → Calls Tryd.prog 15 #[.slice (some ⟨b, off, none⟩) acc.length c, .string (str x.name)] W fun e w' => ∃ y A2 n2 c2, e = .returned (.tuple #[.agg (scCells y (.slice A2 n2 c2)).toArray, .bool q]) ∧ Below W.heap.size W w') := by
        intro W hW
        have hbw : Below w.heap.size w W := HB1.out.trans (hW.mono hsz1)
        refine (rFind_any acc _ x.name W ((HTK.out.below hbw).more hbw.size)).mono ?_
        rintro e w' ⟨y, A2, c2, _, he, _, hb'⟩
        rw [hrr, hq] at he
        exact ⟨y, A2, _, c2, he, hb'⟩
      have hst : ∀ (W : World) (g : Nat) (y : Sc) (A2 : Option Addr) (n2 c2 : Nat), W.there g 0 3 → (storeCells ⟨g, 0, none⟩ (scCells y (.slice A2 n2 c2))).run Tryd.prog W = .ok () (W.setCells g 0 (scCells y (.slice A2 n2 c2))) := fun W g y A2 n2 c2 h => run_store_there W g _ 3 rfl (sc_mem y) h
      have htn := sc_there
      have hly := fun y A2 n2 c2 => scCells_len y (.slice A2 n2 c2)
      have HC1 := Lib.hid hc1
      have HRR := Lib.hid hrr
      have HQ := Lib.hid hq
      have HNL := Lib.hid hNl
      rw [hN]
      clear hN hrr hq hc1
      go_region_held3 (fun W => W.cell? ⟨N, 0, none⟩ = some (.string (str x.name)) ∧ Below w1.heap.size w1 W)
        ((refine keepZ HC1.out HNL.out ?_; with_reducible first | exact (Below.refl _ _).drew | exact (z_alloc (Below.refl _ _)).drew | exact z_alloc (And.right (by assumption)) | exact z_set (And.right (by assumption)) hw2 | exact z_set (And.right (by assumption)) (Nat.le_refl _) | exact z_call (And.right (by assumption)) hb2))
        (first | (go_at_call 15; refine (HF.out _ (And.right (by assumption))).mono ?_; rintro e w2 ⟨y, A2, n2, c2, rfl, hb2⟩; have hw2 := z_size (And.right (by assumption)) hb2; (try have ht2 := sc_thereB hb2)))
      all_goals
        refine z_forget (W1 := w1) (And.right (by assumption)) ?_
        clear hst htn hly
        intro W3 hB3
        have hbw3 : Below w.heap.size w W3 := HB1.out.trans (hB3.mono hsz1)
        have HBW := Lib.hid hbw3
        clear hB3 hbw3
        cases q with
        | true =>
          have hr7 : r = 7 := by rw [← HK1.out, HRR.out, HQ.out, if_pos rfl]
          subst hr7
          go_wp2_with fail
          go_ret
          exact ⟨rfl, HBW.out⟩
        | false =>
          have hr7 : r = 0 := by rw [← HK1.out, HRR.out, HQ.out, if_neg (by decide)]
          subst hr7
          go_wp2_with fail
          go_ret
          exact ⟨rfl, HBW.out⟩
    · have hr0 : r = q := by rw [← HR.out, if_pos (by rw [hq]; exact hq0), hq]
      subst hr0
      have hqb : (r != 0) = true := by rw [bne_iff_ne]; exact hq0
      clear hq hq0 HR
      go_wp2_with fail
      go_ret
      exact ⟨rfl, HB1.out⟩

set_option maxRecDepth 100000 in
set_option maxHeartbeats 1000000 in
theorem rValid_any (l : List Sc) (v : Value) (w : World) (hrd : RdSc w w.heap.size v l) (hnm : ∀ x ∈ l, x.name.length ≤ 1000000) :
    Calls Tryd.prog 41 #[v] w (BoolB (validP l) w) := by
  obtain ⟨A, c, rfl, hc, hml⟩ := hrd.form
  unfold maxLen at hml
  obtain ⟨r, hr⟩ : ∃ r, validP l = r := ⟨_, rfl⟩
  rw [hr]
  have HR := Lib.hid hr
  have HRD := Lib.hid hrd
  have HNM := Lib.hid hnm
  clear hr hrd hnm
  go_enter Tryd.func41, Tryd.ntmps41
  go_wp2_with fail
  go_loopw [3] (fun i wr => ∃ k : Nat, k ≤ l.length ∧ i = .int .i64 k ∧ (∀ (j : Nat) (x : Sc), j < k → l[j]? = some x → lastErr (l.take j) x = 0) ∧ Below w.heap.size w wr) (fun i _ => l.length - (intOf i).toNat)
  case atStart => exact ⟨0, by omega, rfl, fun j x hj => by omega, Below.refl _ _⟩
  case round =>
    obtain ⟨k, hk, rfl, hall, hb⟩ := hrel
    have HALL := Lib.hid hall
    have HB := Lib.hid hb
    have hsz := hb.size
    clear hall hb
    by_cases hlt : k < l.length
    · have hx : l[k]? = some l[k] := List.getElem?_eq_getElem hlt
      obtain ⟨x, hxe⟩ : ∃ x, l[k] = x := ⟨_, rfl⟩
      have HXN := Lib.hid (show x.name.length ≤ 1000000 from HNM.out x (by rw [← hxe]; exact List.getElem_mem hlt))
      rw [hxe] at hx
      obtain ⟨b, off, A1, c1, rfl, hbl, _, _, _, _, _, _⟩ := RdSc.at_ (HRD.out.below HB.out) hx
      have htk := RdSc.take HRD.out (k + 1) (by omega)
      rw [take_snoc hx] at htk
      have HTK := Lib.hid ((htk.below HB.out).more hsz)
      have HX := Lib.hid hx
      have hk1 : (0 : Int) ≤ (k : Int) + 1 := by omega
      have hk2 : (k : Int) + 1 ≤ (c : Int) := by omega
      clear hxe hx htk
      go_wp2_with fail
      refine (rlast_any (l.take k) x _ wr HTK.out HXN.out).mono ?_
      rintro e w1 ⟨he, hb1⟩
      have HB1 := Lib.hid (HB.out.trans (hb1.mono hsz))
      obtain ⟨q, hq⟩ : ∃ q, lastErr (l.take k) x = q := ⟨_, rfl⟩
      rw [hq] at he
      subst he
      clear hb1
      by_cases hq0 : q = 0
      · subst hq0
        have HN := Lib.hid (show ∀ (j : Nat) (x : Sc), j < k + 1 → l[j]? = some x → lastErr (l.take j) x = 0 from fun j y hj hy => by
          by_cases hjk : j < k
          · exact HALL.out j y hjk hy
          · obtain rfl : j = k := by omega
            rw [HX.out] at hy
            injection hy with hy
            rw [← hy]; exact hq)
        clear hq
        go_wp2_with fail
        exact ⟨⟨k + 1, by omega, by go_num, HN.out, HB1.out⟩, by simp [intOf]; omega⟩
      · have hr0 : r = false := by
          rw [← HR.out]
          cases hv : validP l with
          | false => rfl
          | true => exact absurd (hq.symm.trans (validP_last.1 hv k x HX.out)) hq0
        subst hr0
        have hqb : (q != 0) = true := by rw [bne_iff_ne]; exact hq0
        clear hq hq0
        go_wp2_with fail
        go_ret
        exact ⟨rfl, HB1.out⟩
    · have hr0 : r = true := by
        rw [← HR.out]
        exact validP_last.2 (fun i x hx => HALL.out i x (by have := (List.getElem?_eq_some_iff.1 hx).1; omega) hx)
      subst hr0
      go_wp2_with fail
      go_ret
      exact ⟨rfl, HB.out⟩

end Go.Proofs.YtabdlldkkcjppaaDoor
