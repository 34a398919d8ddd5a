/-
  RuletextSames walked.
-/
import Derived.Test.YtkalkglllgebkaaDoorRyV
import Derived.Test.YtkalkglllgebkaaDoorRyG
import Derived.Test.YtkalkglllgebkaaDoorRyH
namespace Go.Proofs.YtkalkglllgebkaaDoor
open Go.RowKit Saw Go.Sort

theorem LawX.of {w w1 : World} {e : Ending} {w' : World} (hb : Below w.heap.size w w1) (h : LawX w1 e w') : LawX w e w' := ⟨h.1, bel_call hb h.2⟩

set_option maxRecDepth 100000 in
set_option maxHeartbeats 2000000 in
theorem ruletextSames_walk (x : Ex) (A : Option Addr) (c : Nat) (y : Ex) (B : Option Addr) (d : Nat) (w : World) (hx : ExArg w x A c) (hy : ExArg w y B d) (hv : VarsX w) :
    Calls Tryd.prog 7 #[.agg #[.int .i64 x.op, .int .i64 x.n, .string (str x.name), .slice A x.kids.toList.length c], .agg #[.int .i64 y.op, .int .i64 y.n, .string (str y.name), .slice B y.kids.toList.length d]] w (LawX w) := by
  unfold ExArg at hx hy
  obtain ⟨_, _, _, hc1, hml⟩ := hx.form
  obtain ⟨_, _, _, hc2, hml'⟩ := hy.form
  clear hc1 hc2
  unfold maxLen at hml hml'
  have HX := Lib.hid hx
  have HY := Lib.hid hy
  have HV := Lib.hid hv
  clear hx hy hv
  have hB := bel_alloc (ob := .cells #[.int .i64 y.op, .int .i64 y.n, .string (str y.name), .slice B y.kids.toList.length d] 24) (bel_alloc (ob := .cells #[.int .i64 x.op, .int .i64 x.n, .string (str x.name), .slice A x.kids.toList.length c] 24) (Below.refl w.heap.size w))
  have hR1 := hpA (heap_alloc_last w (.cells #[.int .i64 x.op, .int .i64 x.n, .string (str x.name), .slice A x.kids.toList.length c] 24)) (.cells #[.int .i64 y.op, .int .i64 y.n, .string (str y.name), .slice B y.kids.toList.length d] 24)
  have hR2 := heap_alloc_last (w.alloc (.cells #[.int .i64 x.op, .int .i64 x.n, .string (str x.name), .slice A x.kids.toList.length c] 24)) (.cells #[.int .i64 y.op, .int .i64 y.n, .string (str y.name), .slice B y.kids.toList.length d] 24)
  rw [World.size_alloc] at hR2
  go_enter Tryd.func7, Tryd.ntmps7
  go_upto_region 1 with fail
  obtain ⟨n0, hn0⟩ : ∃ n, w.heap.size = n := ⟨_, rfl⟩
  obtain ⟨W0, hW0⟩ : ∃ W, (w.alloc (.cells #[.int .i64 x.op, .int .i64 x.n, .string (str x.name), .slice A x.kids.toList.length c] 24)).alloc (.cells #[.int .i64 y.op, .int .i64 y.n, .string (str y.name), .slice B y.kids.toList.length d] 24) = W := ⟨_, rfl⟩
  rw [hW0] at hB hR1 hR2 ⊢
  have HX0 := Lib.hid (HX.out.next hB)
  have HY0 := Lib.hid (HY.out.next hB)
  have HV0 := Lib.hid (HV.out.next hB)
  have HB := Lib.hid hB
  rw [hn0] at hR1 hR2 ⊢
  have HR1 := Lib.hid hR1
  have HR2 := Lib.hid hR2
  have HG1 := Lib.hid (show W0.rangeAt n0 0 (exCells x (.slice A x.kids.toList.length c)) from rangeAt_block hR1)
  clear hB hR1 hR2 hW0 hn0 HX HY HV
  go_wp2_with (first
    | ((with_reducible refine ex_load n0 0 x (.slice A x.kids.toList.length c) ?hx HG1.out ?_); (case hx => rfl)))
  refine (nodes_any _ x (Nat.le_refl _) 1 A c W0 (by decide) (by decide) HX0.out).mono ?_
  rintro e w1 ⟨he, hb⟩
  obtain ⟨p, hp⟩ : ∃ p, nodesP x 1 = p := ⟨_, rfl⟩
  rw [hp] at he
  subst he
  have HX1 := Lib.hid (HX0.out.next hb)
  have HY1 := Lib.hid (HY0.out.next hb)
  have HV1 := Lib.hid (HV0.out.next hb)
  have HB1 := Lib.hid (bel_call HB.out hb)
  have hs1 := (hb.block _ (Array.getElem?_eq_some_iff.1 HR1.out).1).trans HR1.out
  have hs2 := (hb.block _ (Array.getElem?_eq_some_iff.1 HR2.out).1).trans HR2.out
  have HS1 := Lib.hid hs1
  have HS2 := Lib.hid hs2
  have HG2 := Lib.hid (show w1.rangeAt (n0 + 1) 0 (exCells y (.slice B y.kids.toList.length d)) from rangeAt_block hs2)
  clear hb HX0 HY0 HV0 HB HR1 HR2 HG1 hp hs1 hs2
  by_cases h6 : 600 < p
  · go_wp2_with fail
    refine (awake_any w1 HV1.out).mono ?_
    rintro e w2 ⟨he, hb⟩
    subst he
    have HB2 := Lib.hid (bel_call HB1.out hb)
    clear hb
    go_wp2_with fail
    go_ret
    exact ⟨rfl, HB2.out⟩
  obtain ⟨f0, f1, f2, f3⟩ := rangeAt4 HG2.out
  rw [Nat.zero_add] at f1 f2 f3
  go_wp2_with fail
  refine (nodes_any _ y (Nat.le_refl _) 1 B d w1 (by decide) (by decide) HY1.out).mono ?_
  rintro e w2 ⟨he, hb⟩
  obtain ⟨q, hq⟩ : ∃ q, nodesP y 1 = q := ⟨_, rfl⟩
  rw [hq] at he
  subst he
  have HX2 := Lib.hid (HX1.out.next hb)
  have HY2 := Lib.hid (HY1.out.next hb)
  have HV2 := Lib.hid (HV1.out.next hb)
  have HB2 := Lib.hid (bel_call HB1.out hb)
  have hs1 := (hb.block _ (Array.getElem?_eq_some_iff.1 HS1.out).1).trans HS1.out
  have hs2 := (hb.block _ (Array.getElem?_eq_some_iff.1 HS2.out).1).trans HS2.out
  have hl1 := (Array.getElem?_eq_some_iff.1 hs1).1
  have hl2 := (Array.getElem?_eq_some_iff.1 hs2).1
  have HG1 := Lib.hid (show w2.rangeAt n0 0 (exCells x (.slice A x.kids.toList.length c)) from rangeAt_block hs1)
  have HG3 := Lib.hid (show w2.rangeAt (n0 + 1) 0 (exCells y (.slice B y.kids.toList.length d)) from rangeAt_block hs2)
  clear hb HX1 HY1 HV1 HB1 HS1 HS2 HG2 hq hs1 hs2 f0 f1 f2 f3
  by_cases h7 : 600 < q
  · go_wp2_with fail
    refine (awake_any w2 HV2.out).mono ?_
    rintro e w3 ⟨he, hb⟩
    subst he
    have HB3 := Lib.hid (bel_call HB2.out hb)
    clear hb
    go_wp2_with fail
    go_ret
    exact ⟨rfl, HB3.out⟩
  obtain ⟨m, hm⟩ : ∃ m, decide (x = y) = m := ⟨_, rfl⟩
  have S1 : Hid (∀ D os, Calls Tryd.prog 24 #[.agg (exCells x (.slice A x.kids.toList.length c)).toArray, .agg (exCells y (.slice B y.kids.toList.length d)).toArray] (grow (redrawn w2 D) os) fun e w' => e = .returned (.bool m) ∧ Below (grow (redrawn w2 D) os).heap.size (grow (redrawn w2 D) os) w') := fun D os => by
    have hb := below_regrown w2 D os
    exact (same_any _ x y (Nat.le_refl _) A B c d _ (HX2.out.next hb) (HY2.out.next hb)).mono fun e w' ⟨he, hb⟩ => ⟨by rw [he, hm], hb⟩
  have S2 : Hid (∀ D os, Calls Tryd.prog 16 #[.agg (exCells x (.slice A x.kids.toList.length c)).toArray, .agg (exCells y (.slice B y.kids.toList.length d)).toArray] (grow (redrawn w2 D) os) fun e w' => e = .returned (.bool m) ∧ Below (grow (redrawn w2 D) os).heap.size (grow (redrawn w2 D) os) w') := fun D os => by
    have hb := below_regrown w2 D os
    exact (rsame_any _ x y (Nat.le_refl _) A B c d _ (HX2.out.next hb) (HY2.out.next hb)).mono fun e w' ⟨he, hb⟩ => ⟨by rw [he, hm], hb⟩
  have S3 : Hid (∀ D os, Calls Tryd.prog 24 #[.agg (exCells x (.slice A x.kids.toList.length c)).toArray, .agg (exCells x (.slice A x.kids.toList.length c)).toArray] (grow (redrawn w2 D) os) fun e w' => e = .returned (.bool true) ∧ Below (grow (redrawn w2 D) os).heap.size (grow (redrawn w2 D) os) w') := fun D os => by
    have hb := below_regrown w2 D os
    exact (same_any _ x x (Nat.le_refl _) A A c c _ (HX2.out.next hb) (HX2.out.next hb)).mono fun e w' ⟨he, hb⟩ => ⟨by rw [he, decide_eq_true rfl], hb⟩
  have S4 : Hid (∀ D os, Calls Tryd.prog 12 #[] (grow (redrawn w2 D) os) fun e w' => e = .returned (.bool true) ∧ Below (grow (redrawn w2 D) os).heap.size (grow (redrawn w2 D) os) w') := fun D os =>
    awake_any _ (HV2.out.next (below_regrown w2 D os))
  have hmm : (m == m) = true := by simp
  clear hm
  go_wp2_with fail
  refine wp_region_quiet_below (by kernel_rfl) (by kernel_rfl) ?_
  repeat (first
    | ((with_reducible refine quiet_load n0 0 (exCells x (.slice A x.kids.toList.length c)) ?hw ?hx HG1.out hl1 Tryd.underlying24 ?hd ?hi ?_); (case hi => exact ex_info); (case hw => kernel_rfl); (case hx => rfl); (case hd => rfl))
    | ((with_reducible refine quiet_load (n0 + 1) 0 (exCells y (.slice B y.kids.toList.length d)) ?hw ?hx HG3.out hl2 Tryd.underlying24 ?hd ?hi ?_); (case hi => exact ex_info); (case hw => kernel_rfl); (case hx => rfl); (case hd => rfl))
    | (open Go.BigFrame in go_big_quiet_step ((first | (with_reducible exact Calls.regrown_of (S1.out _ _)) | (with_reducible exact Calls.regrown_of (S2.out _ _)) | (with_reducible exact Calls.regrown_of (S3.out _ _)) | (with_reducible exact Calls.regrown_of (S4.out _ _)))))
    | (quiet_step ((first | (with_reducible exact Calls.regrown_of (S1.out _ _)) | (with_reducible exact Calls.regrown_of (S2.out _ _)) | (with_reducible exact Calls.regrown_of (S3.out _ _)) | (with_reducible exact Calls.regrown_of (S4.out _ _))))))
  refine wpQuiet_nil ?_
  rintro w6 ⟨z6, hw6⟩
  have HB6 := Lib.hid (bel_call HB2.out (show Below w2.heap.size w2 w6 by rw [hw6]; exact below_regrown _ _ _))
  clear hw6
  go_wp2_with fail
  go_ret
  exact ⟨rfl, HB6.out⟩

end Go.Proofs.YtkalkglllgebkaaDoor
