/-
  ProductSizes and ProductPrices walked.
-/
import Derived.Test.YtokgonpeolppnaaDoorPLaw1
namespace Saw
theorem lens_lt {x : Pr} (h : PrOk x) : ∀ (d i : Nat) (a b : Int), x.lens[i]? = some a → x.lens[i + d + 1]? = some b → a < b
  | 0, i, a, b, ha, hb => h.lo i b a ha hb
  | d + 1, i, a, b, ha, hb => by
    have hl := (List.getElem?_eq_some_iff.1 hb).1
    have hm : x.lens[i + d + 1]? = some x.lens[i + d + 1] := List.getElem?_eq_getElem (by omega)
    have h1 := lens_lt h d i a _ ha hm
    have h2 := h.lo (i + d + 1) b _ hm hb
    omega
theorem priceL_get : ∀ (ls ps : List Int) (k : Nat) (n p : Int), (∀ (i j : Nat) (a b : Int), i < j → ls[i]? = some a → ls[j]? = some b → a < b) → ls[k]? = some n → ps[k]? = some p → priceL ls ps n = some p
  | [], _, k, n, p, _, h, _ => by simp at h
  | m :: r, [], k, n, p, _, _, h => by simp at h
  | m :: r, q :: s, 0, n, p, _, h1, h2 => by
    simp only [List.getElem?_cons_zero, Option.some.injEq] at h1 h2
    rw [priceL, if_pos h1]
    simp [h2]
  | m :: r, q :: s, k + 1, n, p, hs, h1, h2 => by
    have hm := hs 0 (k + 1) m n (by omega) rfl h1
    simp only [List.getElem?_cons_succ] at h1 h2
    rw [priceL, if_neg (by omega), List.tail_cons]
    exact priceL_get r s k n p (fun i j a b hij ha hb => hs (i + 1) (j + 1) a b (by omega) ha hb) h1 h2
theorem price_at {x : Pr} (h : PrOk x) {k : Nat} {n p : Int} (h1 : x.lens[k]? = some n) (h2 : x.prices[k]? = some p) : priceP x n = some p :=
  priceL_get _ _ k n p (fun i j a b hij ha hb => lens_lt h (j - i - 1) i a b ha (by rw [show i + (j - i - 1) + 1 = j by omega]; exact hb)) h1 h2
def hasN (ls : List Int) (n : Int) : Bool := ls.any fun m => m == n
theorem priceL_has : ∀ (ls ps : List Int) (n : Int), ls.length ≤ ps.length → (priceL ls ps n).isSome = hasN ls n
  | [], _, n, _ => rfl
  | m :: r, [], n, h => by simp at h
  | m :: r, q :: s, n, h => by
    rw [priceL, hasN, List.any_cons]
    by_cases hm : m = n
    · rw [if_pos hm, hm]; simp
    · rw [if_neg hm, List.tail_cons, priceL_has r s n (by simpa using h), beq_eq_false_iff_ne.2 hm, Bool.false_or]; rfl
theorem price_has {x : Pr} (h : PrOk x) (n : Int) : (priceP x n).isSome = hasN x.lens n := priceL_has _ _ _ (by rw [h.lp]; exact Nat.le_refl _)
theorem hasN_snoc {ls : List Int} {k : Nat} {m : Int} (h : ls[k]? = some m) (n : Int) : hasN (ls.take (k + 1)) n = (hasN (ls.take k) n || m == n) := by
  rw [List.take_add_one, h, hasN, List.any_append]
  simp [hasN]
end Saw
namespace Go.Proofs.YtokgonpeolppnaaDoor
open Go.RowKit Saw Go.Sort

theorem pr_cells {w : World} {N : Nat} {x : Pr} {A1 A2 : Option Addr} {c1 c2 : Nat} (h : w.heap[N]? = some (.cells #[.string (str x.name), .int .i64 x.thick, .int .i64 x.width, .int .i64 x.allow, .int .i64 x.wane, .slice A1 x.lens.length c1, .slice A2 x.prices.length c2] 29 (0, 0))) : w.cell? ⟨N, 0, none⟩ = some (.string (str x.name)) ∧ w.cell? ⟨N, 1, none⟩ = some (.int .i64 x.thick) ∧ w.cell? ⟨N, 2, none⟩ = some (.int .i64 x.width) ∧ w.cell? ⟨N, 3, none⟩ = some (.int .i64 x.allow) ∧ w.cell? ⟨N, 4, none⟩ = some (.int .i64 x.wane) ∧ w.cell? ⟨N, 5, none⟩ = some (.slice A1 x.lens.length c1) ∧ w.cell? ⟨N, 6, none⟩ = some (.slice A2 x.prices.length c2) := 
  ⟨cell_box h rfl, cell_box h rfl, cell_box h rfl, cell_box h rfl, cell_box h rfl, cell_box h rfl, cell_box h rfl⟩
theorem own_one {w W : World} {x : Pr} {A1 A2 : Option Addr} {c1 c2 : Nat} (h1 : RdI w w.heap.size (.slice A1 x.lens.length c1) x.lens) (h2 : RdI w w.heap.size (.slice A2 x.prices.length c2) x.prices) (hW : w.alloc (.cells #[.string (str x.name), .int .i64 x.thick, .int .i64 x.width, .int .i64 x.allow, .int .i64 x.wane, .slice A1 x.lens.length c1, .slice A2 x.prices.length c2] 29) = W) :
    RdPr W W.heap.size (.slice (some ⟨w.heap.size, 0, none⟩) 1 1) [x] ∧ Below w.heap.size w W := by
  have b1 : Below w.heap.size w W := by rw [← hW]; exact (Below.refl _ _).alloc (Nat.le_refl _) _
  have h3 := Rd.of_own (ownsRow_new (w := w) (base := w.heap.size) (len := 1) (size := 7) (e := 29) (cs := prsCells [(x, .slice A1 x.lens.length c1, .slice A2 x.prices.length c2)]) (Nat.le_refl _) rfl (by decide))
  have hW' : w.alloc (.cells (prsCells [(x, .slice A1 x.lens.length c1, .slice A2 x.prices.length c2)]).toArray 29) = W := hW
  rw [hW'] at h3
  refine ⟨⟨[(x, .slice A1 x.lens.length c1, .slice A2 x.prices.length c2)], rfl, h3, fun y hy => ?_⟩, b1⟩
  rw [List.mem_singleton.1 hy]
  exact ⟨h1.next b1, h2.next b1⟩

set_option maxRecDepth 100000 in
set_option maxHeartbeats 1000000 in
theorem productSizes_walk (x : Pr) (A1 A2 : Option Addr) (c1 c2 : Nat) (n : Int) (w : World) (h : PrArg w x A1 A2 c1 c2) (hn : I64 n) (hv : VarsP w) :
    Calls Tryd.prog 4 #[.agg #[.string (str x.name), .int .i64 x.thick, .int .i64 x.width, .int .i64 x.allow, .int .i64 x.wane, .slice A1 x.lens.length c1, .slice A2 x.prices.length c2], .int .i64 n] w (LawP w) := by
  obtain ⟨h1, h2, hnm⟩ := h
  obtain ⟨W0, hW0⟩ : ∃ W0, w.alloc (.cells #[.string (str x.name), .int .i64 x.thick, .int .i64 x.width, .int .i64 x.allow, .int .i64 x.wane, .slice A1 x.lens.length c1, .slice A2 x.prices.length c2] 29) = W0 := ⟨_, rfl⟩
  have s0 : W0.heap.size = w.heap.size + 1 := by rw [← hW0, World.size_alloc]
  have b0 : Below w.heap.size w W0 := by rw [← hW0]; exact (Below.refl _ _).alloc (Nat.le_refl _) _
  have g0 : W0.heap[w.heap.size]? = some (.cells #[.string (str x.name), .int .i64 x.thick, .int .i64 x.width, .int .i64 x.allow, .int .i64 x.wane, .slice A1 x.lens.length c1, .slice A2 x.prices.length c2] 29 (0, 0)) := by rw [← hW0]; exact heap_alloc_last w _
  obtain ⟨W1, hW1⟩ : ∃ W1, W0.alloc (.cells #[.string (str x.name), .int .i64 x.thick, .int .i64 x.width, .int .i64 x.allow, .int .i64 x.wane, .slice A1 x.lens.length c1, .slice A2 x.prices.length c2] 29) = W1 := ⟨_, rfl⟩
  obtain ⟨hr1, b1⟩ := own_one (h1.next b0) (h2.next b0) hW1
  rw [s0] at hr1
  obtain ⟨p0, p1, p2, p3, p4, p5, p6⟩ := pr_cells g0
  have k1 := (b1.block w.heap.size (by omega)).trans g0
  have HB1 := Lib.hid (b0.trans (b1.mono b0.size))
  have HK1 := Lib.hid k1
  have HR1 := Lib.hid hr1
  have HI1 := Lib.hid ((h1.next b0).next b1)
  have HP1 := Lib.hid ((h2.next b0).next b1)
  have HV := Lib.hid hv
  have HW := Lib.hid (show (w.alloc (.cells #[.string (str x.name), .int .i64 x.thick, .int .i64 x.width, .int .i64 x.allow, .int .i64 x.wane, .slice A1 x.lens.length c1, .slice A2 x.prices.length c2] 29)).alloc (.cells #[.string (str x.name), .int .i64 x.thick, .int .i64 x.width, .int .i64 x.allow, .int .i64 x.wane, .slice A1 x.lens.length c1, .slice A2 x.prices.length c2] 29) = W1 by rw [hW0, hW1])
  have HN := Lib.hid (show ∀ y ∈ [x], y.name.length ≤ 9223372036854775807 from fun y hy => by rw [List.mem_singleton.1 hy]; unfold maxLen at hnm; omega)
  clear h1 h2 hv b0 b1 g0 hW0 hW1 k1 hr1 hnm hn
  go_enter Tryd.func4, Tryd.ntmps4
  go_wp2_with fail
  rw [HW.out]
  refine (short_any [x] _ _ HR1.out HN.out).mono ?_
  rintro e w1 ⟨he, rfl⟩
  obtain ⟨q, hq⟩ : ∃ q, shortP [x] = q := ⟨_, rfl⟩
  rw [hq] at he
  subst he
  clear hq p0 p1 p2 p3 p4 p5 p6
  cases q with
  | false =>
    go_wp2_with fail
    refine (awakeP_any _ (HV.out.below HB1.out)).mono ?_
    rintro e w2 ⟨rfl, hb2⟩
    have HB2 := Lib.hid (HB1.out.trans (hb2.mono HB1.out.size))
    clear hb2
    go_wp2_with fail
    go_ret
    exact ⟨rfl, HB2.out⟩
  | true =>
    obtain ⟨p0, p1, p2, p3, p4, p5, p6⟩ := pr_cells HK1.out
    have hN1 : w.heap.size < W1.heap.size := (Array.getElem?_eq_some_iff.1 HK1.out).1
    go_wp2_with fail
    refine (green_any x A1 A2 _ c1 _ c2 _).mono ?_
    rintro e w2 ⟨rfl, hb2⟩
    have HB2 := Lib.hid (HB1.out.trans (hb2.mono HB1.out.size))
    have HK2 := Lib.hid ((hb2.block w.heap.size hN1).trans HK1.out)
    have HI2 := Lib.hid (HI1.out.next hb2)
    have HP2 := Lib.hid (HP1.out.next hb2)
    have hN2 : w.heap.size < w2.heap.size := (Array.getElem?_eq_some_iff.1 HK2.out).1
    clear hb2 p0 p1 p2 p3 p4 p5 p6
    obtain ⟨p0, p1, p2, p3, p4, p5, p6⟩ := pr_cells HK2.out
    go_wp2_with fail
    refine (refGreen_any x A1 A2 _ c1 _ c2 _).mono ?_
    rintro e w3 ⟨rfl, hb3⟩
    have HB3 := Lib.hid (HB2.out.trans (hb3.mono HB2.out.size))
    have HK3 := Lib.hid ((hb3.block w.heap.size hN2).trans HK2.out)
    have HI3 := Lib.hid (HI2.out.next hb3)
    have HP3 := Lib.hid (HP2.out.next hb3)
    have hN3 : w.heap.size < w3.heap.size := (Array.getElem?_eq_some_iff.1 HK3.out).1
    clear hb3 p0 p1 p2 p3 p4 p5 p6
    obtain ⟨p0, p1, p2, p3, p4, p5, p6⟩ := pr_cells HK3.out
    go_wp2_with fail
    refine (price_any x A1 A2 c1 c2 n _ HI3.out HP3.out).mono ?_
    rintro e w4 ⟨rfl, hb4⟩
    have HB4 := Lib.hid (HB3.out.trans (hb4.mono HB3.out.size))
    have HK4 := Lib.hid ((hb4.block w.heap.size hN3).trans HK3.out)
    have HI4 := Lib.hid (HI3.out.next hb4)
    have HP4 := Lib.hid (HP3.out.next hb4)
    have hN4 : w.heap.size < w4.heap.size := (Array.getElem?_eq_some_iff.1 HK4.out).1
    clear hb4 p0 p1 p2 p3 p4 p5 p6
    obtain ⟨p0, p1, p2, p3, p4, p5, p6⟩ := pr_cells HK4.out
    go_wp2_with fail
    refine (refPrice_any x A1 A2 c1 c2 n _ HI4.out HP4.out).mono ?_
    rintro e w5 ⟨rfl, hb5⟩
    have HB5 := Lib.hid (HB4.out.trans (hb5.mono HB4.out.size))
    have HK5 := Lib.hid ((hb5.block w.heap.size hN4).trans HK4.out)
    have hN5 : w.heap.size < w5.heap.size := (Array.getElem?_eq_some_iff.1 HK5.out).1
    clear hb5 p0 p1 p2 p3 p4 p5 p6
    obtain ⟨g1, hg1⟩ : ∃ g1, (greenP x).1 = g1 := ⟨_, rfl⟩
    obtain ⟨g2, hg2⟩ : ∃ g2, (greenP x).2 = g2 := ⟨_, rfl⟩
    obtain ⟨r1, hr1⟩ : ∃ r1, (priceP x n).getD 0 = r1 := ⟨_, rfl⟩
    obtain ⟨r2, hr2⟩ : ∃ r2, (priceP x n).isSome = r2 := ⟨_, rfl⟩
    simp only [hg1, hg2, hr1, hr2]
    obtain ⟨vol, hvol⟩ : ∃ vol, volumeP x n = vol := ⟨_, rfl⟩
    have S1 : Hid (∀ d os, Calls Tryd.prog 20 #[.agg #[.string (str x.name), .int .i64 x.thick, .int .i64 x.width, .int .i64 x.allow, .int .i64 x.wane, .slice A1 x.lens.length c1, .slice A2 x.prices.length c2], .int .i64 n] (grow (redrawn w5 d) os) fun e w' => e = .returned (.int .i64 vol) ∧ Below (grow (redrawn w5 d) os).heap.size (grow (redrawn w5 d) os) w') := fun d os => by rw [← hvol]; exact volume_any x A1 A2 _ c1 _ c2 n _
    have S2 : Hid (∀ d os, Calls Tryd.prog 21 #[.agg #[.string (str x.name), .int .i64 x.thick, .int .i64 x.width, .int .i64 x.allow, .int .i64 x.wane, .slice A1 x.lens.length c1, .slice A2 x.prices.length c2], .int .i64 n] (grow (redrawn w5 d) os) fun e w' => e = .returned (.int .i64 vol) ∧ Below (grow (redrawn w5 d) os).heap.size (grow (redrawn w5 d) os) w') := fun d os => by rw [← hvol]; exact refVolume_any x A1 A2 _ c1 _ c2 n _
    have S3 : Hid (∀ d os, Calls Tryd.prog 15 #[] (grow (redrawn w5 d) os) fun e w' => e = .returned (.bool true) ∧ Below (grow (redrawn w5 d) os).heap.size (grow (redrawn w5 d) os) w') := fun d os => awakeP_any _ ((HV.out.below HB5.out).below (below_regrown w5 d os))
    have hcn : ∀ d os, (grow (redrawn w5 d) os).cell? ⟨w.heap.size, 0, none⟩ = some (.string (str x.name)) ∧ (grow (redrawn w5 d) os).cell? ⟨w.heap.size, 1, none⟩ = some (.int .i64 x.thick) ∧ (grow (redrawn w5 d) os).cell? ⟨w.heap.size, 2, none⟩ = some (.int .i64 x.width) ∧ (grow (redrawn w5 d) os).cell? ⟨w.heap.size, 3, none⟩ = some (.int .i64 x.allow) ∧ (grow (redrawn w5 d) os).cell? ⟨w.heap.size, 4, none⟩ = some (.int .i64 x.wane) ∧ (grow (redrawn w5 d) os).cell? ⟨w.heap.size, 5, none⟩ = some (.slice A1 x.lens.length c1) ∧ (grow (redrawn w5 d) os).cell? ⟨w.heap.size, 6, none⟩ = some (.slice A2 x.prices.length c2) := fun d os => by
      obtain ⟨p0, p1, p2, p3, p4, p5, p6⟩ := pr_cells HK5.out
      exact ⟨cell_regrown p0 d os, cell_regrown p1 d os, cell_regrown p2 d os, cell_regrown p3 d os, cell_regrown p4 d os, cell_regrown p5 d os, cell_regrown p6 d os⟩
    clear hg1 hg2 hr1 hr2 hvol
    go_wp2_with fail
    refine wp_region_quiet_below (by kernel_rfl) (by kernel_rfl) ?_
    repeat (first
      | (open Go.BigFrame in go_big_quiet_step ((first | (with_reducible exact Calls.regrown_of (S1.out _ _)) | (with_reducible exact Calls.regrown_of (S2.out _ _)) | (with_reducible exact Calls.regrown_of (S3.out _ _)))))
      | (quiet_step ((first | (with_reducible exact Calls.regrown_of (S1.out _ _)) | (with_reducible exact Calls.regrown_of (S2.out _ _)) | (with_reducible exact Calls.regrown_of (S3.out _ _))))))
    refine wpQuiet_nil ?_
    rintro w6 ⟨z6, hw6⟩
    have HB6 := Lib.hid (HB5.out.trans ((show Below w5.heap.size w5 w6 by rw [hw6]; exact below_regrown _ _ _).mono HB5.out.size))
    clear hw6 hcn
    go_wp2_with fail
    go_ret
    exact ⟨rfl, HB6.out⟩

end Go.Proofs.YtokgonpeolppnaaDoor
