/-
  The contract of charge.run.
-/
import Derived.Test.YthineckpociomaaDoorKiL
import Derived.WalkMore
namespace Go.Proofs.YthineckpociomaaDoor
open Go.RowKit Saw Go.Sort

theorem stepK_congr {sc : Sc} {s : Sp} {k : Ki} {fl fl' : List Int} (h : ∀ x, fl.contains x = fl'.contains x) : stepK sc s k fl = stepK sc s k fl' := by
  have hc : stepCm sc s k fl = stepCm sc s k fl' := by
    unfold stepCm nextCm goalP
    rw [h 1, h 3]
  have hi : stepItems sc s k fl = stepItems sc s k fl' := by
    unfold stepItems
    rw [hc, h 2]
  unfold stepK stepEnds
  rw [hc, hi, h 2]
theorem run_info : (Tryd.prog.info? 44).map (·.size) = some 6 := by kernel_rfl
/-- The run's block in the loop. -/
def rlO (r : Ru) : Obj := .cells #[.int .i64 0, .int .i64 0, .int .i64 0, .int .i64 r.hot.temp, .int .i64 r.hot.dep, .int .i64 r.grad] 44
def rzO : Obj := .cells #[.int .i64 0, .int .i64 0, .int .i64 0, .int .i64 0, .int .i64 0, .int .i64 0] 44
theorem gbt_lt {W W' : World} {g j : Nat} (h : W.grownBy W' (some g)) (hj : j < W.heap.size) (hg : j ≠ g) : W'.heap[j]? = W.heap[j]? := h.block j hj (fun e => hg (Option.some.inj e))
theorem gbt_low {W W' : World} {g : Nat} (h : W.grownBy W' (some g)) (hg : g < W.heap.size) : Below g W W' := ⟨h.os, h.tape, h.output, h.size, fun k hk => gbt_lt h (by omega) (by omega)⟩
theorem gbt_trans {W W' W'' : World} {g : Nat} (h : W.grownBy W' (some g)) (h' : W'.grownBy W'' (some g)) : W.grownBy W'' (some g) :=
  ⟨h'.os.trans h.os, h'.tape.trans h.tape, h'.output.trans h.output, Nat.le_trans h.size h'.size, fun k hk hne => (h'.block k (Nat.lt_of_lt_of_le hk h.size) hne).trans (h.block k hk hne)⟩
theorem gbt_new {W W' : World} {g m : Nat} (h : W.grownBy W' (some g)) (j : Nat) (v : Value) (hm : W.heap.size ≤ m) : W.grownBy (W'.setCell ⟨m, j, none⟩ v) (some g) :=
  ⟨h.os, h.tape, h.output, by rw [show (W'.setCell ⟨m, j, none⟩ v).heap.size = W'.heap.size by simp [World.setCell]]; exact h.size, fun i hi hne => (Below.heap_setCell _ _ _ _ (by show i ≠ m; omega)).trans (h.block i hi hne)⟩
/-- The state of the run's loop: the kiln at g, the run's block at m, the result's block at B. -/
structure RlAt (W : World) (g B m : Nat) (sc : Sc) (s : Sp) (sv iv : Value) (j : Nat) (r : Ru) (w : World) : Prop where
  kn : KnAt w g sc s sv iv r.k
  ok : KiOk sc s r.k
  tk : r.k.ticks ≤ j
  gb : W.grownBy w (some g)
  z : w.heap[B]? = some rzO
  b : w.heap[m]? = some (rlO r)
  ne : iv.ownBlock ≠ some m
  neB : iv.ownBlock ≠ some B
  lt : g < B ∧ B < m
section
variable {W w w' : World} {g B m : Nat} {sc : Sc} {s : Sp} {sv iv : Value} {j : Nat} {r : Ru}
theorem RlAt.below (h : RlAt W g B m sc s sv iv j r w) (hb : Below w.heap.size w w') : RlAt W g B m sc s sv iv j r w' :=
  ⟨h.kn.below hb, h.ok, h.tk, gbt_below h.gb hb, (hb.block _ (Array.getElem?_eq_some_iff.1 h.z).1).trans h.z, (hb.block _ (Array.getElem?_eq_some_iff.1 h.b).1).trans h.b, h.ne, h.neB, h.lt⟩
theorem RlAt.ms (h : RlAt W g B m sc s sv iv j r w) : m < w.heap.size := (Array.getElem?_eq_some_iff.1 h.b).1
end
theorem own_of_it {w : World} {n : Nat} {iv : Value} {its : List (Int × Cl)} (h : RdIt w n iv its) (hl : 0 < its.length) (m : Nat) (hm : n ≤ m) : iv.ownBlock ≠ some m := by
  obtain ⟨_, _, A, c, rfl, _, h3⟩ := h
  obtain ⟨b, off, rfl, hb, _⟩ := h3 hl
  intro h
  have : b = m := by injection h
  omega
set_option maxRecDepth 100000 in
set_option maxHeartbeats 16000000 in
theorem run_any (W : World) (g : Nat) (sc : Sc) (s : Sp) (sv iv vf : Value) (k : Ki) (fs : List Fa) (N : Nat) (h : KnAt W g sc s sv iv k) (hok : KiOk sc s k) (hss : SsOk sc s) (htk : k.ticks = 0) (hfs : RdFa W g vf fs) (hfl : fs.length ≤ 1000) (hN : N ≤ 20000) (hv : VarsK W) (hgv : 0 < g) :
    Calls Tryd.prog 14 #[.pointer (some ⟨g, 0, none⟩), vf, .int .i64 N] W (fun e w' => e = .returned (ruV (runGo sc s fs N 0 ⟨k, k.cm, steepest k.items⟩)) ∧ W.grownBy w' (some g) ∧ ∃ iv', KnAt w' g sc s sv iv' (runGo sc s fs N 0 ⟨k, k.cm, steepest k.items⟩).k) := by
  obtain ⟨F, hF⟩ : ∃ F, runGo sc s fs N 0 ⟨k, k.cm, steepest k.items⟩ = F := ⟨_, rfl⟩
  rw [hF]
  have HF := Lib.hid hF
  have HK := Lib.hid h
  have HOK := Lib.hid hok
  have HSS := Lib.hid hss
  have HFS := Lib.hid hfs
  have HV := Lib.hid hv
  have HTK := Lib.hid htk
  have hsz := h.sz
  have hcm : ∃ c, k.cm = c := ⟨_, rfl⟩
  obtain ⟨c, hcm⟩ := hcm
  obtain ⟨st, hst⟩ : ∃ st, steepest k.items = st := ⟨_, rfl⟩
  have HC := Lib.hid hcm
  have HST := Lib.hid hst
  clear h hok hss hfs hv hF hcm hst htk
  go_enter Tryd.func14, Tryd.ntmps14
  go_wp2_with fail
  go_step3
  go_wp2_with fail
  refine (climate_any _ g sc s sv iv k (HK.out.alloc _)).mono ?_
  rintro e w1 ⟨he, hb1⟩
  have he : e = .returned (.agg #[.int .i64 c.temp, .int .i64 c.dep]) := by rw [he, HC.out]; rfl
  subst he
  have HB1 := Lib.hid hb1
  have HK1 := Lib.hid ((HK.out.alloc _).below hb1)
  clear hb1
  go_wp2_with fail
  refine (steepest_any _ g sc s sv iv k HK1.out (by have := HOK.out.len; omega)).mono ?_
  rintro e w2 ⟨he, hb2⟩
  rw [HST.out] at he
  subst he
  have HB2 := Lib.hid hb2
  have HK2 := Lib.hid (HK1.out.below hb2)
  clear hb2
  go_wp2_with fail
  go_step3
  go_wp2_with fail
  obtain ⟨W3, hW3⟩ : ∃ W3, w2.alloc (.cells #[.int .i64 0, .int .i64 0, .int .i64 0, .int .i64 c.temp, .int .i64 c.dep, .int .i64 st] 44) = W3 := ⟨_, rfl⟩
  have hz0 : W.heap.size < w2.heap.size := Nat.lt_of_lt_of_le (Nat.lt_of_lt_of_le (by rw [World.size_alloc]; omega) HB1.out.size) HB2.out.size
  have HRL : Hid (RlAt W g W.heap.size w2.heap.size sc s sv iv 0 ⟨k, k.cm, steepest k.items⟩ W3) := Lib.hid (by
    rw [← hW3]
    have hzz : w2.heap[W.heap.size]? = some rzO := (HB2.out.block _ (Nat.lt_of_lt_of_le (by rw [World.size_alloc]; omega) HB1.out.size)).trans ((HB1.out.block _ (by rw [World.size_alloc]; omega)).trans (heap_alloc_last W _))
    have hg2 : W.grownBy w2 (some g) := gbt_below (gbt_below (gbt_below (gbt_refl W) (bel_alloc (Below.refl _ _))) HB1.out) HB2.out
    refine ⟨HK2.out.alloc _, HOK.out, by show k.ticks ≤ _; rw [HTK.out]; exact Int.le_refl _, gbt_below hg2 (bel_alloc (Below.refl _ _)), (Below.heap_alloc _ _ _ hz0).trans hzz, ?_, own_of_it HK2.out.it HOK.out.len.1 _ (Nat.le_refl _), own_of_it HK.out.it HOK.out.len.1 _ (Nat.le_refl _), ⟨hsz, hz0⟩⟩
    show _ = some (Obj.cells #[.int .i64 0, .int .i64 0, .int .i64 0, .int .i64 k.cm.temp, .int .i64 k.cm.dep, .int .i64 (steepest k.items)] 44 (0, 0))
    rw [HC.out, HST.out]
    exact heap_alloc_last w2 _)
  obtain ⟨m, hm⟩ : ∃ m, w2.heap.size = m := ⟨_, rfl⟩
  obtain ⟨B, hB⟩ : ∃ B, W.heap.size = B := ⟨_, rfl⟩
  rw [hW3]
  rw [hm] at HRL ⊢
  have HBB := Lib.hid hB
  rw [hB] at HRL ⊢
  clear hW3 hm hB hz0
  go_loopw [8] (fun x8 wr => ∃ (j : Nat) (r : Ru) (iv : Value), j ≤ N ∧ x8 = .int .i64 j ∧ runGo sc s fs (N - j) j r = F ∧ RlAt W g B m sc s sv iv j r wr) (fun x8 _ => N - (intOf x8).toNat)
  case atStart => exact ⟨0, _, iv, by omega, rfl, HF.out, HRL.out⟩
  case round =>
    obtain ⟨j, r, iv2, hj, rfl, hrun, hrl⟩ := hrel
    have HR := Lib.hid hrl
    have HRUN := Lib.hid hrun
    clear hrl hrun
    by_cases hjN : j = N
    · subst hjN
      have HRF := Lib.hid (show r = F by have h := HRUN.out; rw [Nat.sub_self] at h; exact h)
      obtain ⟨T1, hT1⟩ : ∃ T, r.k.ticks = T := ⟨_, rfl⟩
      obtain ⟨T2, hT2⟩ : ∃ T, r.k.held = T := ⟨_, rfl⟩
      obtain ⟨T3, hT3⟩ : ∃ T, r.k.stage = T := ⟨_, rfl⟩
      have HT := Lib.hid (And.intro hT1 (And.intro hT2 hT3))
      go_wp2_with fail
      refine (ticks_any _ g sc s sv iv2 r.k HR.out.kn).mono ?_
      rintro e w8 ⟨he, n8, hw8⟩
      rw [hT1, hT2] at he
      subst he
      have HR8 := Lib.hid (show RlAt W g B m sc s sv iv2 j r w8 by rw [hw8]; exact HR.out.below (below_drewNn (Below.refl _ _) n8))
      clear hw8 hT1 hT2 hT3
      have hmb : w8.heap[m]? = some (.cells #[.int .i64 0, .int .i64 0, .int .i64 0, .int .i64 r.hot.temp, .int .i64 r.hot.dep, .int .i64 r.grad] 44 (0, 0)) := HR8.out.b
      have q0 : w8.cell? ⟨m, 0, none⟩ = some (.int .i64 0) := cell_of_row w8 m 0 _ _ _ hmb
      have q1 : w8.cell? ⟨m, 1, none⟩ = some (.int .i64 0) := cell_of_row w8 m 1 _ _ _ hmb
      have f0 : w8.frozen? ⟨m, 0, none⟩ = false := frz hmb 0
      have f1 : w8.frozen? ⟨m, 1, none⟩ = false := frz hmb 1
      go_upto_region 12 with fail
      obtain ⟨W8, hW8⟩ : ∃ W8, (w8.setCell ⟨m, 0, none⟩ (.int .i64 T1)).setCell ⟨m, 1, none⟩ (.int .i64 T2) = W8 := ⟨_, rfl⟩
      have HM8 := Lib.hid (show W8.heap[m]? = some (.cells #[.int .i64 T1, .int .i64 T2, .int .i64 0, .int .i64 r.hot.temp, .int .i64 r.hot.dep, .int .i64 r.grad] 44 (0, 0)) by rw [← hW8]; exact setc_heap (setc_heap hmb _ 0) _ 1)
      have HK8 := Lib.hid (show KnAt W8 g sc s sv iv2 r.k by
        rw [← hW8]
        have hgm : g < m := by have := HR8.out.lt; omega
        exact (HR8.out.kn.setO 0 _ hgm HR8.out.ne).setO 1 _ hgm HR8.out.ne)
      have HZ8 := Lib.hid (show W8.heap[B]? = some rzO by
        rw [← hW8]
        have hgm := HR8.out.lt
        exact (Below.heap_setCell _ _ _ _ (by show B ≠ m; omega)).trans ((Below.heap_setCell _ _ _ _ (by show B ≠ m; omega)).trans HR8.out.z))
      have HG8 := Lib.hid (show W.grownBy W8 (some g) by
        rw [← hW8]
        exact gbt_new (gbt_new HR8.out.gb 0 _ (by have := HR8.out.lt; rw [HBB.out]; omega)) 1 _ (by have := HR8.out.lt; rw [HBB.out]; omega))
      rw [hW8]
      clear hW8 hmb q0 q1 f0 f1
      go_wp2_with fail
      refine (stage_any W8 g sc s sv iv2 r.k HK8.out).mono ?_
      rintro e w9 ⟨he, rfl⟩
      have he : e = .returned (.int .i64 T3) := by rw [he, HT.out.2.2]
      subst he
      have q2 : w9.cell? ⟨m, 2, none⟩ = some (.int .i64 0) := cell_of_row w9 m 2 _ _ _ HM8.out
      have f2 : w9.frozen? ⟨m, 2, none⟩ = false := frz HM8.out 2
      go_upto_region 13 with fail
      obtain ⟨W9, hW9⟩ : ∃ W9, w9.setCell ⟨m, 2, none⟩ (.int .i64 T3) = W9 := ⟨_, rfl⟩
      have hM9 : W9.heap[m]? = some (.cells #[.int .i64 T1, .int .i64 T2, .int .i64 T3, .int .i64 r.hot.temp, .int .i64 r.hot.dep, .int .i64 r.grad] 44 (0, 0)) := by rw [← hW9]; exact setc_heap HM8.out _ 2
      have hgm := HR8.out.lt
      have HK9 := Lib.hid (show KnAt W9 g sc s sv iv2 r.k by rw [← hW9]; exact HK8.out.setO 2 _ (by omega) HR8.out.ne)
      have hZ9 : W9.heap[B]? = some (.cells #[.int .i64 0, .int .i64 0, .int .i64 0, .int .i64 0, .int .i64 0, .int .i64 0] 44 (0, 0)) := by rw [← hW9]; exact (Below.heap_setCell _ _ _ _ (by show B ≠ m; omega)).trans HZ8.out
      have HG9 := Lib.hid (show W.grownBy W9 (some g) by rw [← hW9]; exact gbt_new HG8.out 2 _ (by rw [HBB.out]; omega))
      rw [hW9]
      clear hW9 q2 f2
      have m0 := cell_of_row W9 m 0 _ _ _ hM9
      have z0 := cell_of_row W9 B 0 _ _ _ hZ9
      have zf0 := frz hZ9 0
      have m1 := cell_of_row W9 m 1 _ _ _ hM9
      have z1 := cell_of_row W9 B 1 _ _ _ hZ9
      have zf1 := frz hZ9 1
      have m2 := cell_of_row W9 m 2 _ _ _ hM9
      have z2 := cell_of_row W9 B 2 _ _ _ hZ9
      have zf2 := frz hZ9 2
      have m3 := cell_of_row W9 m 3 _ _ _ hM9
      have z3 := cell_of_row W9 B 3 _ _ _ hZ9
      have zf3 := frz hZ9 3
      have m4 := cell_of_row W9 m 4 _ _ _ hM9
      have z4 := cell_of_row W9 B 4 _ _ _ hZ9
      have zf4 := frz hZ9 4
      have m5 := cell_of_row W9 m 5 _ _ _ hM9
      have z5 := cell_of_row W9 B 5 _ _ _ hZ9
      have zf5 := frz hZ9 5
      have HZ9 := Lib.hid hZ9
      clear hM9 hZ9
      go_wp2_with fail
      rw [Exit.noGoto_ret]
      obtain ⟨X, hX⟩ : ∃ X, (((((W9.setCell ⟨B, 0, none⟩ (.int .i64 T1)).setCell ⟨B, 1, none⟩ (.int .i64 T2)).setCell ⟨B, 2, none⟩ (.int .i64 T3)).setCell ⟨B, 3, none⟩ (.int .i64 r.hot.temp)).setCell ⟨B, 4, none⟩ (.int .i64 r.hot.dep)).setCell ⟨B, 5, none⟩ (.int .i64 r.grad) = X := ⟨_, rfl⟩
      have hXB : X.heap[B]? = some (.cells #[.int .i64 T1, .int .i64 T2, .int .i64 T3, .int .i64 r.hot.temp, .int .i64 r.hot.dep, .int .i64 r.grad] 44 (0, 0)) := by
        rw [← hX]
        exact setc_heap (setc_heap (setc_heap (setc_heap (setc_heap (setc_heap HZ9.out _ 0) _ 1) _ 2) _ 3) _ 4) _ 5
      have hgB : g < B := hgm.1
      have hneB := HR8.out.neB
      have hKX : KnAt X g sc s sv iv2 r.k := by
        rw [← hX]
        exact (((((HK9.out.setO 0 _ hgB hneB).setO 1 _ hgB hneB).setO 2 _ hgB hneB).setO 3 _ hgB hneB).setO 4 _ hgB hneB).setO 5 _ hgB hneB
      have hGX : W.grownBy X (some g) := by
        rw [← hX]
        have hBW : W.heap.size ≤ B := by rw [HBB.out]; exact Nat.le_refl _
        exact gbt_new (gbt_new (gbt_new (gbt_new (gbt_new (gbt_new HG9.out 0 _ hBW) 1 _ hBW) 2 _ hBW) 3 _ hBW) 4 _ hBW) 5 _ hBW
      rw [hX]
      refine bodyPost_ret (results_cell1 Tryd.results14 _ _ B 0 [.int .i64 T1, .int .i64 T2, .int .i64 T3, .int .i64 r.hot.temp, .int .i64 r.hot.dep, .int .i64 r.grad] rfl (rangeAt_block hXB) Tryd.underlying44 rfl run_info) rfl ⟨?_, hGX, iv2, ?_⟩
      · rw [← HRF.out]
        unfold ruV
        rw [HT.out.1, HT.out.2.1, HT.out.2.2]
      · rw [← HRF.out]
        exact hKX
    · have g1 : decide ((N : Int) ≤ j) = false := by rw [decide_eq_false_iff_not]; omega
      go_wp2_with fail
      refine (done_any wr g sc s sv iv2 r.k HR.out.kn).mono ?_
      rintro e w4 ⟨he, n4, hw4⟩
      obtain ⟨bd, hbd⟩ : ∃ bd, decide (r.k.stage = (sc.stages.length : Int)) = bd := ⟨_, rfl⟩
      rw [hbd] at he
      subst he
      have HR4 := Lib.hid (show RlAt W g B m sc s sv iv2 j r w4 by rw [hw4]; exact HR.out.below (below_drewNn (Below.refl _ _) n4))
      have HBD := Lib.hid hbd
      clear hw4 hbd
      cases bd with
      | true =>
        have HRF := Lib.hid (show r = F by
          have h := HRUN.out
          rw [show N - j = (N - j - 1) + 1 by omega, runGo, if_pos (of_decide_eq_true HBD.out)] at h
          exact h)
        obtain ⟨T1, hT1⟩ : ∃ T, r.k.ticks = T := ⟨_, rfl⟩
        obtain ⟨T2, hT2⟩ : ∃ T, r.k.held = T := ⟨_, rfl⟩
        obtain ⟨T3, hT3⟩ : ∃ T, r.k.stage = T := ⟨_, rfl⟩
        have HT := Lib.hid (And.intro hT1 (And.intro hT2 hT3))
        go_wp2_with fail
        refine (ticks_any _ g sc s sv iv2 r.k HR4.out.kn).mono ?_
        rintro e w8 ⟨he, n8, hw8⟩
        rw [hT1, hT2] at he
        subst he
        have HR8 := Lib.hid (show RlAt W g B m sc s sv iv2 j r w8 by rw [hw8]; exact HR4.out.below (below_drewNn (Below.refl _ _) n8))
        clear hw8 hT1 hT2 hT3
        have hmb : w8.heap[m]? = some (.cells #[.int .i64 0, .int .i64 0, .int .i64 0, .int .i64 r.hot.temp, .int .i64 r.hot.dep, .int .i64 r.grad] 44 (0, 0)) := HR8.out.b
        have q0 : w8.cell? ⟨m, 0, none⟩ = some (.int .i64 0) := cell_of_row w8 m 0 _ _ _ hmb
        have q1 : w8.cell? ⟨m, 1, none⟩ = some (.int .i64 0) := cell_of_row w8 m 1 _ _ _ hmb
        have f0 : w8.frozen? ⟨m, 0, none⟩ = false := frz hmb 0
        have f1 : w8.frozen? ⟨m, 1, none⟩ = false := frz hmb 1
        go_upto_region 12 with fail
        obtain ⟨W8, hW8⟩ : ∃ W8, (w8.setCell ⟨m, 0, none⟩ (.int .i64 T1)).setCell ⟨m, 1, none⟩ (.int .i64 T2) = W8 := ⟨_, rfl⟩
        have HM8 := Lib.hid (show W8.heap[m]? = some (.cells #[.int .i64 T1, .int .i64 T2, .int .i64 0, .int .i64 r.hot.temp, .int .i64 r.hot.dep, .int .i64 r.grad] 44 (0, 0)) by rw [← hW8]; exact setc_heap (setc_heap hmb _ 0) _ 1)
        have HK8 := Lib.hid (show KnAt W8 g sc s sv iv2 r.k by
          rw [← hW8]
          have hgm : g < m := by have := HR8.out.lt; omega
          exact (HR8.out.kn.setO 0 _ hgm HR8.out.ne).setO 1 _ hgm HR8.out.ne)
        have HZ8 := Lib.hid (show W8.heap[B]? = some rzO by
          rw [← hW8]
          have hgm := HR8.out.lt
          exact (Below.heap_setCell _ _ _ _ (by show B ≠ m; omega)).trans ((Below.heap_setCell _ _ _ _ (by show B ≠ m; omega)).trans HR8.out.z))
        have HG8 := Lib.hid (show W.grownBy W8 (some g) by
          rw [← hW8]
          exact gbt_new (gbt_new HR8.out.gb 0 _ (by have := HR8.out.lt; rw [HBB.out]; omega)) 1 _ (by have := HR8.out.lt; rw [HBB.out]; omega))
        rw [hW8]
        clear hW8 hmb q0 q1 f0 f1
        go_wp2_with fail
        refine (stage_any W8 g sc s sv iv2 r.k HK8.out).mono ?_
        rintro e w9 ⟨he, rfl⟩
        have he : e = .returned (.int .i64 T3) := by rw [he, HT.out.2.2]
        subst he
        have q2 : w9.cell? ⟨m, 2, none⟩ = some (.int .i64 0) := cell_of_row w9 m 2 _ _ _ HM8.out
        have f2 : w9.frozen? ⟨m, 2, none⟩ = false := frz HM8.out 2
        go_upto_region 13 with fail
        obtain ⟨W9, hW9⟩ : ∃ W9, w9.setCell ⟨m, 2, none⟩ (.int .i64 T3) = W9 := ⟨_, rfl⟩
        have hM9 : W9.heap[m]? = some (.cells #[.int .i64 T1, .int .i64 T2, .int .i64 T3, .int .i64 r.hot.temp, .int .i64 r.hot.dep, .int .i64 r.grad] 44 (0, 0)) := by rw [← hW9]; exact setc_heap HM8.out _ 2
        have hgm := HR8.out.lt
        have HK9 := Lib.hid (show KnAt W9 g sc s sv iv2 r.k by rw [← hW9]; exact HK8.out.setO 2 _ (by omega) HR8.out.ne)
        have hZ9 : W9.heap[B]? = some (.cells #[.int .i64 0, .int .i64 0, .int .i64 0, .int .i64 0, .int .i64 0, .int .i64 0] 44 (0, 0)) := by rw [← hW9]; exact (Below.heap_setCell _ _ _ _ (by show B ≠ m; omega)).trans HZ8.out
        have HG9 := Lib.hid (show W.grownBy W9 (some g) by rw [← hW9]; exact gbt_new HG8.out 2 _ (by rw [HBB.out]; omega))
        rw [hW9]
        clear hW9 q2 f2
        have m0 := cell_of_row W9 m 0 _ _ _ hM9
        have z0 := cell_of_row W9 B 0 _ _ _ hZ9
        have zf0 := frz hZ9 0
        have m1 := cell_of_row W9 m 1 _ _ _ hM9
        have z1 := cell_of_row W9 B 1 _ _ _ hZ9
        have zf1 := frz hZ9 1
        have m2 := cell_of_row W9 m 2 _ _ _ hM9
        have z2 := cell_of_row W9 B 2 _ _ _ hZ9
        have zf2 := frz hZ9 2
        have m3 := cell_of_row W9 m 3 _ _ _ hM9
        have z3 := cell_of_row W9 B 3 _ _ _ hZ9
        have zf3 := frz hZ9 3
        have m4 := cell_of_row W9 m 4 _ _ _ hM9
        have z4 := cell_of_row W9 B 4 _ _ _ hZ9
        have zf4 := frz hZ9 4
        have m5 := cell_of_row W9 m 5 _ _ _ hM9
        have z5 := cell_of_row W9 B 5 _ _ _ hZ9
        have zf5 := frz hZ9 5
        have HZ9 := Lib.hid hZ9
        clear hM9 hZ9
        go_wp2_with fail
        rw [Exit.noGoto_ret]
        obtain ⟨X, hX⟩ : ∃ X, (((((W9.setCell ⟨B, 0, none⟩ (.int .i64 T1)).setCell ⟨B, 1, none⟩ (.int .i64 T2)).setCell ⟨B, 2, none⟩ (.int .i64 T3)).setCell ⟨B, 3, none⟩ (.int .i64 r.hot.temp)).setCell ⟨B, 4, none⟩ (.int .i64 r.hot.dep)).setCell ⟨B, 5, none⟩ (.int .i64 r.grad) = X := ⟨_, rfl⟩
        have hXB : X.heap[B]? = some (.cells #[.int .i64 T1, .int .i64 T2, .int .i64 T3, .int .i64 r.hot.temp, .int .i64 r.hot.dep, .int .i64 r.grad] 44 (0, 0)) := by
          rw [← hX]
          exact setc_heap (setc_heap (setc_heap (setc_heap (setc_heap (setc_heap HZ9.out _ 0) _ 1) _ 2) _ 3) _ 4) _ 5
        have hgB : g < B := hgm.1
        have hneB := HR8.out.neB
        have hKX : KnAt X g sc s sv iv2 r.k := by
          rw [← hX]
          exact (((((HK9.out.setO 0 _ hgB hneB).setO 1 _ hgB hneB).setO 2 _ hgB hneB).setO 3 _ hgB hneB).setO 4 _ hgB hneB).setO 5 _ hgB hneB
        have hGX : W.grownBy X (some g) := by
          rw [← hX]
          have hBW : W.heap.size ≤ B := by rw [HBB.out]; exact Nat.le_refl _
          exact gbt_new (gbt_new (gbt_new (gbt_new (gbt_new (gbt_new HG9.out 0 _ hBW) 1 _ hBW) 2 _ hBW) 3 _ hBW) 4 _ hBW) 5 _ hBW
        rw [hX]
        refine bodyPost_ret (results_cell1 Tryd.results14 _ _ B 0 [.int .i64 T1, .int .i64 T2, .int .i64 T3, .int .i64 r.hot.temp, .int .i64 r.hot.dep, .int .i64 r.grad] rfl (rangeAt_block hXB) Tryd.underlying44 rfl run_info) rfl ⟨?_, hGX, iv2, ?_⟩
        · rw [← HRF.out]
          unfold ruV
          rw [HT.out.1, HT.out.2.1, HT.out.2.2]
        · rw [← HRF.out]
          exact hKX
      | false =>
        have hnd : r.k.stage ≠ sc.stages.length := of_decide_eq_false HBD.out
        have HRN := Lib.hid (show runGo sc s fs (N - (j + 1)) ((j + 1 : Nat) : Int) (stepR sc s fs j r) = F by
          have h := HRUN.out
          rw [show N - j = (N - (j + 1)) + 1 by omega, runGo, if_neg hnd] at h
          exact h)
        go_wp2_with fail
        refine (faAt_any fs j vf w4 ((HFS.out.below (gbt_low HR4.out.gb hsz)).more (Nat.le_of_lt HR4.out.kn.sz)) hfl).mono ?_
        rintro e w5 ⟨v5, fl, rfl, hri, hct, hb5, hfr⟩
        have HR5 := Lib.hid (HR4.out.below hb5)
        have HV5 := Lib.hid (HV.out.below (gbt_low HR5.out.gb hsz) hgv)
        have HRI := Lib.hid hri
        have HFR := Lib.hid (hfr g HR4.out.kn.sz)
        have HSK := Lib.hid (show stepK sc s r.k fl = stepK sc s r.k (faultsAt fs j) from stepK_congr hct)
        clear hri hct hb5 hfr
        go_wp2_with fail
        refine (kTick_any w5 g sc s sv iv2 r.k fl v5 HR5.out.kn HR5.out.ok HSS.out hnd (by have := HR5.out.tk; omega) HRI.out HFR.out HV5.out hgv).mono ?_
        rintro e w6 ⟨⟨b6, rfl⟩, hg6, iv6, hk6, hfr6⟩
        rw [HSK.out] at hk6
        obtain ⟨k', hk'⟩ : ∃ k', stepK sc s r.k (faultsAt fs j) = k' := ⟨_, rfl⟩
        have HOK6 := Lib.hid (show KiOk sc s k' by rw [← hk']; exact stepK_ok (faultsAt fs j) HSS.out HR5.out.ok)
        have HTK6 := Lib.hid (show k'.ticks ≤ (j : Int) + 1 by rw [← hk']; show r.k.ticks + 1 ≤ _; have := HR5.out.tk; omega)
        rw [hk'] at hk6
        have HKP := Lib.hid hk'
        have HK6 := Lib.hid hk6
        have HGB6 := Lib.hid (gbt_trans HR5.out.gb hg6)
        have HZ6 := Lib.hid ((gbt_lt hg6 (Array.getElem?_eq_some_iff.1 HR5.out.z).1 (by have := HR5.out.lt; omega)).trans HR5.out.z)
        have HM6 := Lib.hid ((gbt_lt hg6 HR5.out.ms (by have := HR5.out.lt; omega)).trans HR5.out.b)
        have HNE6 := Lib.hid (And.intro (hfr6 m HR5.out.ms) (hfr6 B (Array.getElem?_eq_some_iff.1 HR5.out.z).1))
        have HLT := Lib.hid HR5.out.lt
        clear hg6 hk6 hfr6 hk'
        go_wp2_with fail
        refine (climate_any w6 g sc s sv iv6 k' HK6.out).mono ?_
        rintro e w7 ⟨he, hb7⟩
        have he : e = .returned (.agg #[.int .i64 k'.cm.temp, .int .i64 k'.cm.dep]) := he
        subst he
        have HK7 := Lib.hid (HK6.out.below hb7)
        have HG7 := Lib.hid (gbt_below HGB6.out hb7)
        have HZ7 := Lib.hid ((hb7.block _ (Array.getElem?_eq_some_iff.1 HZ6.out).1).trans HZ6.out)
        have HM7 := Lib.hid ((hb7.block _ (Array.getElem?_eq_some_iff.1 HM6.out).1).trans HM6.out)
        have hm7 : m < w7.heap.size := (Array.getElem?_eq_some_iff.1 HM7.out).1
        clear hb7
        obtain ⟨t1, ht1⟩ : ∃ t, k'.cm.temp = t := ⟨_, rfl⟩
        obtain ⟨d1, hd1⟩ : ∃ d, k'.cm.dep = d := ⟨_, rfl⟩
        rw [ht1, hd1]
        have HTD := Lib.hid (And.intro ht1 hd1)
        clear ht1 hd1
        go_upto_region 8 with fail
        obtain ⟨W8, hW8⟩ : ∃ W8, w7.alloc (.cells #[.int .i64 t1, .int .i64 d1] 42) = W8 := ⟨_, rfl⟩
        obtain ⟨n, hn⟩ : ∃ n, w7.heap.size = n := ⟨_, rfl⟩
        have hN8 : W8.heap[n]? = some (.cells #[.int .i64 t1, .int .i64 d1] 42 (0, 0)) := by rw [← hW8, ← hn]; exact heap_alloc_last w7 _
        have hM8 : W8.heap[m]? = some (.cells #[.int .i64 0, .int .i64 0, .int .i64 0, .int .i64 r.hot.temp, .int .i64 r.hot.dep, .int .i64 r.grad] 44 (0, 0)) := by rw [← hW8]; exact (Below.heap_alloc _ _ _ hm7).trans HM7.out
        have HK8 := Lib.hid (show KnAt W8 g sc s sv iv6 k' by rw [← hW8]; exact HK7.out.alloc _)
        have HG8 := Lib.hid (show W.grownBy W8 (some g) by rw [← hW8]; exact gbt_below HG7.out (bel_alloc (Below.refl _ _)))
        have HZ8 := Lib.hid (show W8.heap[B]? = some rzO by rw [← hW8]; exact (Below.heap_alloc _ _ _ (Array.getElem?_eq_some_iff.1 HZ7.out).1).trans HZ7.out)
        rw [hW8]
        rw [hn] at hm7 ⊢
        clear hW8 hn
        have a3 := cell_of_row W8 m 3 _ _ _ hM8
        have a4 := cell_of_row W8 m 4 _ _ _ hM8
        have b0 := cell_of_row W8 n 0 _ _ _ hN8
        have b1 := cell_of_row W8 n 1 _ _ _ hN8
        have f3 := frz hM8 3
        have f4 := frz hM8 4
        have hmn : m ≠ n := by omega
        have HN8 := Lib.hid hN8
        have HM8 := Lib.hid hM8
        clear hN8 hM8
        go_upto_region 10 with fail
        obtain ⟨t2, ht2⟩ : ∃ t, max r.hot.temp t1 = t := ⟨_, rfl⟩
        obtain ⟨d2, hd2⟩ : ∃ d, max r.hot.dep d1 = d := ⟨_, rfl⟩
        rw [ht2, hd2]
        have HTD2 := Lib.hid (And.intro ht2 hd2)
        clear ht2 hd2 a3 a4 b0 b1 f3 f4
        obtain ⟨X, hX⟩ : ∃ X, (W8.setCell ⟨m, 3, none⟩ (.int .i64 t2)).setCell ⟨m, 4, none⟩ (.int .i64 d2) = X := ⟨_, rfl⟩
        have hgm : g < m := by have := HLT.out; omega
        have hBm : B ≠ m := by have := HLT.out; omega
        have hWm : W.heap.size ≤ m := by have := HLT.out; rw [HBB.out]; omega
        have hMX : X.heap[m]? = some (.cells #[.int .i64 0, .int .i64 0, .int .i64 0, .int .i64 t2, .int .i64 d2, .int .i64 r.grad] 44 (0, 0)) := by rw [← hX]; exact setc_heap (setc_heap HM8.out _ 3) _ 4
        have HKX := Lib.hid (show KnAt X g sc s sv iv6 k' by rw [← hX]; exact (HK8.out.setO 3 _ hgm HNE6.out.1).setO 4 _ hgm HNE6.out.1)
        have HGX := Lib.hid (show W.grownBy X (some g) by rw [← hX]; exact gbt_new (gbt_new HG8.out 3 _ hWm) 4 _ hWm)
        have HZX := Lib.hid (show X.heap[B]? = some rzO by rw [← hX]; exact (Below.heap_setCell _ _ _ _ hBm).trans ((Below.heap_setCell _ _ _ _ hBm).trans HZ8.out))
        rw [hX]
        clear hX
        obtain ⟨u, hu⟩ : ∃ u, steepest k'.items = u := ⟨_, rfl⟩
        have HU := Lib.hid hu
        have y5 := cell_regrown (cell_of_row X m 5 _ _ _ hMX)
        have D1 : Hid (∀ d os, Calls Tryd.prog 25 #[.pointer (some ⟨g, 0, none⟩)] (grow (redrawn X d) os) fun e w' => e = .returned (.int .i64 u) ∧ Below (grow (redrawn X d) os).heap.size (grow (redrawn X d) os) w') := Lib.hid (fun d os => by rw [← hu]; exact steepest_any _ g sc s sv iv6 k' (HKX.out.below (below_regrown X d os)) (HOK6.out.len.2))
        have HMX := Lib.hid hMX
        clear hMX hu
        refine wp_region_below_tail 6 (by kernel_rfl) (by kernel_rfl) ?_
        simp only [List.take_succ_cons, List.take_zero, List.drop_succ_cons, List.drop_zero]
        repeat (first
          | (open Go.BigFrame in go_big_quiet_step ((with_reducible exact Calls.regrown_of (D1.out _ _))))
          | (quiet_step ((with_reducible exact Calls.regrown_of (D1.out _ _)))))
        refine wpQuiet_nil ?_
        intro w9 hb9
        have HK9 := Lib.hid (HKX.out.below hb9)
        have HG9 := Lib.hid (gbt_below HGX.out hb9)
        have HZ9 := Lib.hid ((hb9.block _ (Array.getElem?_eq_some_iff.1 HZX.out).1).trans HZX.out)
        have hm9 := (hb9.block _ (Array.getElem?_eq_some_iff.1 HMX.out).1).trans HMX.out
        have q5 := cell_of_row w9 m 5 _ _ _ hm9
        have f5 := frz hm9 5
        have HM9 := Lib.hid hm9
        clear hb9 y5 hm9
        go_upto_region 3 with fail
        obtain ⟨g2, hg2⟩ : ∃ t, max r.grad u = t := ⟨_, rfl⟩
        rw [hg2]
        have HG2 := Lib.hid hg2
        clear hg2 q5 f5
        have HEND := Lib.hid (show RlAt W g B m sc s sv iv6 (j + 1) (stepR sc s fs j r) (w9.setCell ⟨m, 5, none⟩ (.int .i64 g2)) from
          ⟨by show KnAt _ g sc s sv iv6 (stepK sc s r.k (faultsAt fs j)); rw [HKP.out]; exact HK9.out.setO 5 _ hgm HNE6.out.1,
           by show KiOk sc s (stepK sc s r.k (faultsAt fs j)); rw [HKP.out]; exact HOK6.out,
           by show (stepK sc s r.k (faultsAt fs j)).ticks ≤ _; rw [HKP.out]; have := HTK6.out; omega,
           gbt_new HG9.out 5 _ hWm,
           (Below.heap_setCell _ _ _ _ hBm).trans HZ9.out,
           by
            show _ = some (Obj.cells #[.int .i64 0, .int .i64 0, .int .i64 0, .int .i64 (max r.hot.temp (stepK sc s r.k (faultsAt fs j)).cm.temp), .int .i64 (max r.hot.dep (stepK sc s r.k (faultsAt fs j)).cm.dep), .int .i64 (max r.grad (steepest (stepK sc s r.k (faultsAt fs j)).items))] 44 (0, 0))
            rw [HKP.out, HTD.out.1, HTD.out.2, HTD2.out.1, HTD2.out.2, HU.out, HG2.out]
            exact setc_heap HM9.out _ 5,
           HNE6.out.1, HNE6.out.2, HLT.out⟩)
        go_wp2_with fail
        exact ⟨⟨j + 1, _, iv6, by omega, by go_num, HRN.out, HEND.out⟩, by simp [intOf]; omega⟩
end Go.Proofs.YthineckpociomaaDoor
