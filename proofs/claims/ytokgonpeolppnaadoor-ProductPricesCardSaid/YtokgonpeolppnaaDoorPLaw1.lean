/-
  ProductChecks, ProductFinds and ProductGreens walked.
-/
import Derived.Test.YtokgonpeolppnaaDoorPrOpen
namespace Saw
theorem findPr_spec {l : List Pr} {nm : List UInt8} {n : Nat} (h : findPr l nm = some n) : ∃ x, l[n]? = some x ∧ x.name = nm ∧ ∀ (i : Nat) (y : Pr), i < n → l[i]? = some y → (y.name == nm) = false := by
  rw [findPr, List.findIdx?_eq_some_iff_getElem] at h
  obtain ⟨hn, h1, h2⟩ := h
  refine ⟨l[n], List.getElem?_eq_getElem hn, by simpa using h1, fun i y hi hy => ?_⟩
  obtain ⟨hil, rfl⟩ := List.getElem?_eq_some_iff.1 hy
  have := h2 i hi
  simpa using this
theorem findPr_none {l : List Pr} {nm : List UInt8} (h : findPr l nm = none) : ∀ (i : Nat) (y : Pr), l[i]? = some y → (y.name == nm) = false := fun i y hy => by
  rw [findPr, List.findIdx?_eq_none_iff] at h
  have := h y (List.mem_of_getElem? hy)
  simpa using this
theorem grow_ok {n a : Int} (h1 : 1 ≤ n) (h2 : n ≤ 600) (h3 : 0 ≤ a) (h4 : a ≤ 200) : n * (1000 + a) ≤ 1000 * growP n a ∧ 1000 * (growP n a - 1) < n * (1000 + a) ∧ 0 ≤ growP n a ∧ growP n a ≤ 1000 ∧ 0 ≤ n * (1000 + a) ∧ n * (1000 + a) ≤ 720000 := by
  have hm : 0 ≤ n * (1000 + a) ∧ n * (1000 + a) ≤ 600 * 1200 := ⟨Int.mul_nonneg (by omega) (by omega), Int.mul_le_mul h2 (by omega) (by omega) (by omega)⟩
  unfold growP
  obtain ⟨m, hme⟩ : ∃ m, n * (1000 + a) = m := ⟨_, rfl⟩
  rw [hme] at hm ⊢
  omega
theorem grow_mono {n a b : Int} (h1 : 1 ≤ n) (hab : a ≤ b) : growP n a ≤ growP n b := by
  have : n * (1000 + a) ≤ n * (1000 + b) := Int.mul_le_mul_of_nonneg_left (by omega) (by omega)
  unfold growP
  omega
end Saw
namespace Go.Proofs.YtokgonpeolppnaaDoor
open Go.RowKit Saw Go.Sort

theorem nameMax {l : List Pr} (h : ∀ x ∈ l, x.name.length ≤ maxLen) : ∀ x ∈ l, x.name.length ≤ 9223372036854775807 := fun x hx => by have := h x hx; unfold maxLen at this; omega

set_option maxRecDepth 100000 in
set_option maxHeartbeats 1000000 in
theorem productChecks_walk (l : List Pr) (A : Option Addr) (c : Nat) (w : World) (h : RdPr w w.heap.size (.slice A l.length c) l ∧ ∀ x ∈ l, x.name.length ≤ maxLen) (hv : VarsP w) :
    Calls Tryd.prog 3 #[.slice A l.length c] w (LawP w) := by
  have HRD := Lib.hid h.1
  have HNM := Lib.hid (nameMax h.2)
  have HV := Lib.hid hv
  clear h hv
  go_enter Tryd.func3, Tryd.ntmps3
  go_wp2_with fail
  refine (short_any l _ _ HRD.out HNM.out).mono ?_
  rintro e w1 ⟨he, rfl⟩
  obtain ⟨q, hq⟩ : ∃ q, shortP l = q := ⟨_, rfl⟩
  rw [hq] at he
  subst he
  cases q with
  | false =>
    clear hq
    go_wp2_with fail
    refine (awakeP_any _ HV.out).mono ?_
    rintro e w2 ⟨rfl, hb2⟩
    have HB2 := Lib.hid hb2
    clear hb2
    go_wp2_with fail
    go_ret
    exact ⟨rfl, HB2.out⟩
  | true =>
    have HNS := Lib.hid (show ∀ x ∈ l, x.name.length ≤ 1000000 from fun x hx => by have := ((shortP_ok hq).2 x hx).2.2; omega)
    clear hq
    go_wp2_with fail
    refine (prCheck_any l _ _ HRD.out HNS.out).mono ?_
    rintro e w2 ⟨rfl, hb2⟩
    have HB2 := Lib.hid hb2
    have HRD2 := Lib.hid (HRD.out.next hb2)
    clear hb2
    go_wp2_with fail
    refine (refPrCheck_any l _ _ HRD2.out HNS.out).mono ?_
    rintro e w3 ⟨rfl, hb3⟩
    have HB3 := Lib.hid (HB2.out.trans (hb3.mono HB2.out.size))
    clear hb3
    go_wp2_with fail
    refine (awakeP_any _ (HV.out.below HB3.out)).mono ?_
    rintro e w4 ⟨rfl, hb4⟩
    have HB4 := Lib.hid (HB3.out.trans (hb4.mono HB3.out.size))
    clear hb4
    go_wp2_with fail
    go_ret
    exact ⟨rfl, HB4.out⟩

set_option maxRecDepth 100000 in
set_option maxHeartbeats 1000000 in
theorem productFinds_walk (l : List Pr) (A : Option Addr) (c : Nat) (s : ByteArray) (w : World) (h : RdPr w w.heap.size (.slice A l.length c) l ∧ ∀ x ∈ l, x.name.length ≤ maxLen) (hs : s.size ≤ 9223372036854775807) (hv : VarsP w) :
    Calls Tryd.prog 6 #[.slice A l.length c, .string s] w (LawP w) := by
  obtain ⟨_, _, _, _, hml⟩ := h.1.form
  unfold maxLen at hml
  have HRD := Lib.hid h.1
  have HV := Lib.hid hv
  obtain ⟨nm, rfl⟩ : ∃ nm, s = str nm := ⟨bts s, (str_bts s).symm⟩
  clear h hv hs
  by_cases h20 : 20 < l.length
  · go_enter Tryd.func6, Tryd.ntmps6
    go_wp2_with fail
    refine (awakeP_any _ HV.out).mono ?_
    rintro e w2 ⟨rfl, hb2⟩
    have HB2 := Lib.hid hb2
    clear hb2
    go_wp2_with fail
    go_ret
    exact ⟨rfl, HB2.out⟩
  · go_enter Tryd.func6, Tryd.ntmps6
    go_wp2_with fail
    refine (prFind_any l _ nm _ HRD.out).mono ?_
    rintro e w1 ⟨he, hb1⟩
    have HB1 := Lib.hid hb1
    have HRD1 := Lib.hid (HRD.out.next hb1)
    clear hb1
    cases hf : findPr l nm with
    | none =>
      rw [hf] at he
      subst he
      have HNO := Lib.hid (findPr_none hf)
      clear hf
      go_wp2_with fail
      go_loop [7] (fun i => ∃ k : Nat, k ≤ l.length ∧ i = .int .i64 k) (fun i => l.length - (intOf i).toNat)
      case atStart => exact ⟨0, by omega, rfl⟩
      case round =>
        obtain ⟨k, hk, rfl⟩ := hrel
        by_cases hlt : k < l.length
        · have hx : l[k]? = some l[k] := List.getElem?_eq_getElem hlt
          obtain ⟨x, hxe⟩ : ∃ x, l[k] = x := ⟨_, rfl⟩
          rw [hxe] at hx
          obtain ⟨b, off, A1, c1, A2, c2, rfl, hbl, _, _, _, _, q0, _⟩ := RdPr.at_ HRD1.out hx
          have hne : ((str x.name).toList == (str nm).toList) = false := by rw [str_eqb]; exact HNO.out k x hx
          clear hx hxe
          go_wp2_with fail
          exact ⟨⟨k + 1, by omega, by go_num⟩, by simp [intOf]; omega⟩
        · go_wp2_with fail
          refine (awakeP_any _ (HV.out.below HB1.out)).mono ?_
          rintro e w2 ⟨rfl, hb2⟩
          have HB2 := Lib.hid (HB1.out.trans (hb2.mono HB1.out.size))
          clear hb2
          go_wp2_with fail
          go_ret
          exact ⟨rfl, HB2.out⟩
    | some n =>
      rw [hf] at he
      subst he
      obtain ⟨y, hy, hyn, hno⟩ := findPr_spec hf
      have hnl : n < l.length := (List.getElem?_eq_some_iff.1 hy).1
      have HNO := Lib.hid hno
      obtain ⟨b, off, A1, c1, A2, c2, rfl, hbl, _, _, _, _, q0, _⟩ := RdPr.at_ HRD1.out hy
      have hyq : ((str y.name).toList == (str nm).toList) = true := by rw [hyn]; simp
      clear hf hno hy hyn
      go_wp2_with fail
      go_loop [7] (fun i => ∃ k : Nat, k ≤ n ∧ i = .int .i64 k) (fun i => n - (intOf i).toNat)
      case atStart => exact ⟨0, by omega, rfl⟩
      case round =>
        obtain ⟨k, hk, rfl⟩ := hrel
        by_cases hlt : k < n
        · have hx : l[k]? = some l[k] := List.getElem?_eq_getElem (by omega)
          obtain ⟨x, hxe⟩ : ∃ x, l[k] = x := ⟨_, rfl⟩
          rw [hxe] at hx
          obtain ⟨b', off', _, _, _, _, hA', _, _, _, _, _, p0, _⟩ := RdPr.at_ HRD1.out hx
          injection hA' with hA'
          injection hA' with e1 e2
          subst e1 e2
          have hne : ((str x.name).toList == (str nm).toList) = false := by rw [str_eqb]; exact HNO.out k x hlt hx
          clear hx hxe
          go_wp2_with fail
          exact ⟨⟨k + 1, by omega, by go_num⟩, by simp [intOf]; omega⟩
        · go_wp2_with fail
          refine (awakeP_any _ (HV.out.below HB1.out)).mono ?_
          rintro e w2 ⟨rfl, hb2⟩
          have HB2 := Lib.hid (HB1.out.trans (hb2.mono HB1.out.size))
          clear hb2
          go_wp2_with fail
          go_ret
          exact ⟨rfl, HB2.out⟩


set_option maxRecDepth 100000 in
set_option maxHeartbeats 1000000 in
theorem productGreens_walk (x : Pr) (A1 A2 : Option Addr) (c1 c2 : Nat) (more : Int) (w : World) (h : PrArg w x A1 A2 c1 c2) (hm : I64 more) (hv : VarsP w) :
    Calls Tryd.prog 7 #[.agg #[.string (str x.name), .int .i64 x.thick, .int .i64 x.width, .int .i64 x.allow, .int .i64 x.wane, .slice A1 x.lens.length c1, .slice A2 x.prices.length c2], .int .i64 more] w (LawP w) := by
  obtain ⟨W0, hW0⟩ : ∃ W0, w.alloc (.cells #[.string (str x.name), .int .i64 x.thick, .int .i64 x.width, .int .i64 x.allow, .int .i64 x.wane, .slice A1 x.lens.length c1, .slice A2 x.prices.length c2] 29) = W0 := ⟨_, rfl⟩
  have s0 : W0.heap.size = w.heap.size + 1 := by rw [← hW0, World.size_alloc]
  have b0 : Below w.heap.size w W0 := by rw [← hW0]; exact (Below.refl _ _).alloc (Nat.le_refl _) _
  have g0 : W0.heap[w.heap.size]? = some (.cells #[.string (str x.name), .int .i64 x.thick, .int .i64 x.width, .int .i64 x.allow, .int .i64 x.wane, .slice A1 x.lens.length c1, .slice A2 x.prices.length c2] 29 (0, 0)) := by rw [← hW0]; exact heap_alloc_last w _
  have p0 : W0.cell? ⟨w.heap.size, 0, none⟩ = some (.string (str x.name)) := cell_box g0 rfl
  have p1 : W0.cell? ⟨w.heap.size, 1, none⟩ = some (.int .i64 x.thick) := cell_box g0 rfl
  have p2 : W0.cell? ⟨w.heap.size, 2, none⟩ = some (.int .i64 x.width) := cell_box g0 rfl
  have p3 : W0.cell? ⟨w.heap.size, 3, none⟩ = some (.int .i64 x.allow) := cell_box g0 rfl
  have p4 : W0.cell? ⟨w.heap.size, 4, none⟩ = some (.int .i64 x.wane) := cell_box g0 rfl
  have p5 : W0.cell? ⟨w.heap.size, 5, none⟩ = some (.slice A1 x.lens.length c1) := cell_box g0 rfl
  have p6 : W0.cell? ⟨w.heap.size, 6, none⟩ = some (.slice A2 x.prices.length c2) := cell_box g0 rfl
  have HB0 := Lib.hid b0
  have HG0 := Lib.hid g0
  have HV := Lib.hid hv
  have HW0 := Lib.hid hW0
  obtain ⟨hm1, hm2⟩ := hm
  clear h hv b0 g0 hW0
  by_cases hr : 1 ≤ x.thick ∧ x.thick ≤ 600 ∧ 1 ≤ x.width ∧ x.width ≤ 600 ∧ 0 ≤ x.allow ∧ x.allow ≤ 200
  · obtain ⟨r1, r2, r3, r4, r5, r6⟩ := hr
    have hg : greenP x = (growP x.thick x.allow, growP x.width x.allow) := by
      unfold greenP sizeOkP
      rw [decide_eq_true r1, decide_eq_true r2, decide_eq_true r3, decide_eq_true r4, decide_eq_true r5, decide_eq_true r6]
      rfl
    obtain ⟨u1, u2, u3, u4, u5, u6⟩ := grow_ok r1 r2 r5 r6
    obtain ⟨v1, v2, v3, v4, v5, v6⟩ := grow_ok r3 r4 r5 r6
    obtain ⟨ga, hga⟩ : ∃ ga, growP x.thick x.allow = ga := ⟨_, rfl⟩
    obtain ⟨gb, hgb⟩ : ∃ gb, growP x.width x.allow = gb := ⟨_, rfl⟩
    have mo1 := fun d (hd : x.allow ≤ d) => grow_mono (n := x.thick) (a := x.allow) (b := d) r1 hd
    have mo2 := fun d (hd : x.allow ≤ d) => grow_mono (n := x.width) (a := x.allow) (b := d) r3 hd
    simp only [hga] at u1 u2 u3 u4 hg mo1
    simp only [hgb] at v1 v2 v3 v4 hg mo2
    have HM1 := Lib.hid mo1
    have HM2 := Lib.hid mo2
    have HG := Lib.hid hg
    clear hg mo1 mo2 hga hgb
    go_enter Tryd.func7, Tryd.ntmps7
    go_wp2_with fail
    rw [HW0.out]
    refine (green_any x A1 A2 _ c1 _ c2 _).mono ?_
    rintro e w1 ⟨he, hb1⟩
    rw [HG.out] at he
    subst he
    have HB1 := Lib.hid (HB0.out.trans (hb1.mono HB0.out.size))
    have hk1 := (hb1.block w.heap.size (by omega)).trans HG0.out
    have HK1 := Lib.hid hk1
    have q0 : w1.cell? ⟨w.heap.size, 0, none⟩ = some (.string (str x.name)) := cell_box hk1 rfl
    have q1 : w1.cell? ⟨w.heap.size, 1, none⟩ = some (.int .i64 x.thick) := cell_box hk1 rfl
    have q2 : w1.cell? ⟨w.heap.size, 2, none⟩ = some (.int .i64 x.width) := cell_box hk1 rfl
    have q3 : w1.cell? ⟨w.heap.size, 3, none⟩ = some (.int .i64 x.allow) := cell_box hk1 rfl
    have q4 : w1.cell? ⟨w.heap.size, 4, none⟩ = some (.int .i64 x.wane) := cell_box hk1 rfl
    have q5 : w1.cell? ⟨w.heap.size, 5, none⟩ = some (.slice A1 x.lens.length c1) := cell_box hk1 rfl
    have q6 : w1.cell? ⟨w.heap.size, 6, none⟩ = some (.slice A2 x.prices.length c2) := cell_box hk1 rfl
    clear hb1 hk1 p0 p1 p2 p3 p4 p5 p6
    by_cases hmo : 0 ≤ more ∧ more ≤ 200 - x.allow
    · obtain ⟨y1, y2⟩ := hmo
      have hfz : w1.frozen? ⟨w.heap.size, 3, none⟩ = false := by simp [World.frozen?, HK1.out]
      obtain ⟨gc, hgc⟩ : ∃ gc, growP x.thick (x.allow + more) = gc := ⟨_, rfl⟩
      obtain ⟨gd, hgd⟩ : ∃ gd, growP x.width (x.allow + more) = gd := ⟨_, rfl⟩
      have l1 : ga ≤ gc := by rw [← hgc]; exact HM1.out _ (by omega)
      have l2 : gb ≤ gd := by rw [← hgd]; exact HM2.out _ (by omega)
      have HG2 := Lib.hid (show greenP ⟨x.name, x.thick, x.width, x.allow + more, x.wane, x.lens, x.prices⟩ = (gc, gd) by
        unfold greenP sizeOkP
        simp only
        rw [decide_eq_true r1, decide_eq_true r2, decide_eq_true r3, decide_eq_true r4, decide_eq_true (show 0 ≤ x.allow + more by omega), decide_eq_true (show x.allow + more ≤ 200 by omega), hgc, hgd]
        rfl)
      clear hgc hgd
      go_wp2_with fail
      refine (green_any ⟨x.name, x.thick, x.width, x.allow + more, x.wane, x.lens, x.prices⟩ A1 A2 _ c1 _ c2 _).mono ?_
      rintro e w2 ⟨he, hb2⟩
      rw [HG2.out] at he
      subst he
      have hb1s : Below w.heap.size w (w1.setCell ⟨w.heap.size, 3, none⟩ (.int .i64 (x.allow + more))) := HB1.out.setCell (Nat.le_refl _) _
      have HB2 := Lib.hid (hb1s.trans (hb2.mono hb1s.size))
      clear hb2 hb1s q0 q1 q2 q3 q4 q5 q6 hfz
      go_wp2_with fail
      refine (awakeP_any _ (HV.out.below HB2.out)).mono ?_
      rintro e w3 ⟨rfl, hb3⟩
      have HB3 := Lib.hid (HB2.out.trans (hb3.mono HB2.out.size))
      clear hb3
      go_wp2_with fail
      go_ret
      exact ⟨rfl, HB3.out⟩
    · go_wp2_with fail
      all_goals
        refine (awakeP_any _ (HV.out.below HB1.out)).mono ?_
        rintro e w3 ⟨rfl, hb3⟩
        have HB3 := Lib.hid (HB1.out.trans (hb3.mono HB1.out.size))
        clear hb3
        go_wp2_with fail
        go_ret
        exact ⟨rfl, HB3.out⟩
  · have hg : greenP x = (0, 0) := by
      unfold greenP sizeOkP
      rw [if_neg]
      simp only [Bool.and_eq_true, decide_eq_true_eq]
      omega
    have HG := Lib.hid hg
    clear hg
    go_enter Tryd.func7, Tryd.ntmps7
    go_wp2_with fail
    all_goals
      rw [HW0.out]
      refine (green_any x A1 A2 _ c1 _ c2 _).mono ?_
      rintro e w1 ⟨he, hb1⟩
      rw [HG.out] at he
      subst he
      have HB1 := Lib.hid (HB0.out.trans (hb1.mono HB0.out.size))
      clear hb1 p0 p1 p2 p3 p4 p5 p6
      go_wp2_with fail
      refine (awakeP_any _ (HV.out.below HB1.out)).mono ?_
      rintro e w3 ⟨rfl, hb3⟩
      have HB3 := Lib.hid (HB1.out.trans (hb3.mono HB1.out.size))
      clear hb3
      go_wp2_with fail
      go_ret
      exact ⟨rfl, HB3.out⟩

end Go.Proofs.YtokgonpeolppnaaDoor
