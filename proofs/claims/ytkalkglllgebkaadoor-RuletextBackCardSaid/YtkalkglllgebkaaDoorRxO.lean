/-
  The parser's method comparison reads what rd says (package ruletext).
-/
import Derived.Test.YtkalkglllgebkaaDoorRxB
namespace Go.Proofs.YtkalkglllgebkaaDoor
open Go.RowKit Saw

set_option maxRecDepth 100000 in
set_option maxHeartbeats 1000000 in
theorem comp_step {xs : List Lx} (hx : XsOk xs) {n : Nat} (IH : ∀ m, m ≤ n → RdCalls xs m) (k : Nat) (r : RR) (h : rd xs (n + 1) .comp k = some r) (hkx : k < xs.length)
    (w : World) (rb : Nat) (lv : Value) (hr : IsRx w rb lv k) (hl : RdXs w rb lv xs) : Calls Tryd.prog 113 #[.pointer (some ⟨rb, 0, none⟩)] w (RdPost w rb lv r) := by
  rw [rd] at h
  have hxm := hx.2.1
  have HI := Lib.hid (IH n (Nat.le_refl _))
  have HS := Lib.hid (NSt.first_ (z := #[.int .i64 0, .int .i64 0, .string ⟨#[]⟩, .slice none 0 0]) rfl hr)
  have HL := Lib.hid hl
  have HX := Lib.hid hx
  clear IH hr hl hx
  go_enter Tryd.func113, Tryd.ntmps113
  go_wp2_with fail
  rcases andThen_some h with ⟨er, off, h1, rfl⟩ | ⟨x, k1, h1, h2⟩
  · refine (HI.out .sum _ rfl _ _ h1 hkx _ rb lv HS.out.1 (HS.out.rdx HL.out)).mono ?_
    rintro e w1 ⟨hg, he⟩
    subst he
    exact ⟨rfl, gb_trans HS.out.2.1 hg, rfl⟩
  · refine (HI.out .sum _ rfl _ _ h1 hkx _ rb lv HS.out.1 (HS.out.rdx HL.out)).mono ?_
    rintro e w1 ⟨hg, A1, c1, he, hy, hr1⟩
    subst he
    have HK := Lib.hid (rd_in HX.out.1 _ _ _ _ _ hkx h1)
    have hS1 := ESt.later_ HS.out hr1 hg hy
    have H2 := Lib.hid h2
    clear hg hy hr1 h1 h2 h HS
    go_upto_region 2 with fail
    obtain ⟨g, hgq⟩ : ∃ g, w1.heap.size = g := ⟨_, rfl⟩
    obtain ⟨W1, hW1⟩ : ∃ W, w1.alloc (.cells #[.int .i64 x.op, .int .i64 x.n, .string (str x.name), .slice A1 x.kids.toList.length c1] 24) = W := ⟨_, rfl⟩
    rw [hgq, show w1.alloc (.cells (exArr x (.slice A1 x.kids.toList.length c1)) 24) = W1 from hW1] at hS1
    rw [hgq, hW1]
    have HS1 := Lib.hid hS1
    clear hS1 hW1 hgq
    go_wp2_with fail
    refine (next_rx _ rb lv k1 xs HS1.out.1 (HS1.out.rdx HL.out) HK.out.2 hxm).mono ?_
    rintro e w2 ⟨he, hb⟩
    obtain ⟨y, hy⟩ : ∃ y, lxAt xs k1 = y := ⟨_, rfl⟩
    rw [hy] at he H2
    have HY := Lib.hid hy
    clear hy
    subst he
    have hS2 := (HS1.out.below hb).below ((Below.refl _ _).alloc (Nat.le_refl _) (.cells #[.int .i64 y.kind, .string (str y.text), .int .i64 y.num, .int .i64 y.off] 49))
    have hB2 := heap_alloc_last w2 (.cells #[.int .i64 y.kind, .string (str y.text), .int .i64 y.num, .int .i64 y.off] 49)
    go_upto_region 3 with fail
    obtain ⟨W2, hW2⟩ : ∃ W, w2.alloc (.cells #[.int .i64 y.kind, .string (str y.text), .int .i64 y.num, .int .i64 y.off] 49) = W := ⟨_, rfl⟩
    have hsz2 : w2.heap.size < W2.heap.size := by rw [← hW2, World.size_alloc]; omega
    have hlt0 := (HS1.out.below hb).1.lt
    obtain ⟨g2, hg2⟩ : ∃ g, w2.heap.size = g := ⟨_, rfl⟩
    rw [hg2] at hlt0
    have HLT := Lib.hid hlt0
    clear hlt0
    rw [hW2] at hS2
    rw [hW2, hg2] at hB2
    rw [hg2] at hsz2
    rw [hg2, hW2]
    have HS2 := Lib.hid hS2
    have HB2 := Lib.hid hB2
    clear hb HS1 hS2 hB2 hW2 hg2
    have hgr : g2 ≠ rb := by have := HLT.out; omega
    obtain ⟨d0, d1⟩ : W2.cell? ⟨g2, 0, none⟩ = some (.int .i64 y.kind) ∧ W2.cell? ⟨g2, 1, none⟩ = some (.string (str y.text)) := ⟨cell_of_box HB2.out rfl, cell_of_box HB2.out rfl⟩
    by_cases hk3 : y.kind = 3
    · have hk3b : (y.kind != 3) = false := by rw [bne_eq_false_iff_eq]; exact hk3
      -- CASES
      have hTL : (str y.text).toList = y.text := by rw [toList_bts, bts_str]
      have HTL := Lib.hid hTL
      clear hTL
      by_cases hT0 : y.text = [61]
      · have f0 : ((str y.text).toList == [61]) = true := by rw [HTL.out, hT0]; rfl
        have f1 : ((str y.text).toList == [33, 61]) = false := by rw [HTL.out, hT0]; rfl
        have f2 : ((str y.text).toList == [60]) = false := by rw [HTL.out, hT0]; rfl
        have f3 : ((str y.text).toList == [60, 61]) = false := by rw [HTL.out, hT0]; rfl
        have f4 : ((str y.text).toList == [62]) = false := by rw [HTL.out, hT0]; rfl
        have f5 : ((str y.text).toList == [62, 61]) = false := by rw [HTL.out, hT0]; rfl
        have hcm : y.kind = 3 ∧ isCmp y.text = true := ⟨hk3, by rw [hT0]; rfl⟩
        have h9 := H2.out
        rw [if_pos hcm] at h9
        have hce : cmpE y.text x = fun b => Saw.two 6 x b := by rw [hT0]; rfl
        rw [hce] at h9
        have HH := Lib.hid h9
        have hk4 : k1 + 1 < xs.length := lxEnds_next HX.out.1 HK.out.2 (by rw [HY.out, hk3]; decide)
        clear hcm h9 hce hT0 hk3
        obtain ⟨c0, c1', f10, hlt1⟩ := HS2.out.1.cells
        go_upto_region 14 with fail
        have hS3 := HS2.out.pos (k1 + 1)
        have hB3 := hpS HB2.out (g' := rb) (i := 1) hgr (.int .i64 ((k1 : Int) + 1))
        obtain ⟨W3, hW3⟩ : ∃ W, W2.setCell ⟨rb, 1, none⟩ (.int .i64 ((k1 : Int) + 1)) = W := ⟨_, rfl⟩
        rw [show W2.setCell ⟨rb, 1, none⟩ (.int .i64 ((k1 + 1 : Nat) : Int)) = W3 from hW3] at hS3
        rw [hW3] at hB3 ⊢
        have HS3 := Lib.hid hS3
        have HB3 := Lib.hid hB3
        clear hS3 hB3 hW3 HS2 HB2 c0 c1' f10 hlt1 d0 d1
        go_wp2_with fail
        rcases andThen_some HH.out with ⟨er, off, h1, rfl⟩ | ⟨z, k2, h1, h2⟩
        · refine (HI.out .sum _ rfl _ _ h1 hk4 _ rb lv HS3.out.1 (HS3.out.rdx HL.out)).mono ?_
          rintro e w4 ⟨hg, he⟩
          subst he
          exact ⟨rfl, gb_trans HS3.out.2.1 hg, rfl⟩
        · injection h2 with h2
          subst h2
          refine (HI.out .sum _ rfl _ _ h1 hk4 _ rb lv HS3.out.1 (HS3.out.rdx HL.out)).mono ?_
          rintro e w4 ⟨hg, A2, c2, he, hz, hr4⟩
          subst he
          have hS5 := (HS3.out.call hr4 hg).below ((Below.refl _ _).alloc (Nat.le_refl _) (.cells (exArr z (.slice A2 z.kids.toList.length c2)) 24))
          have hB5 := hpA ((hg.block g2 (Array.getElem?_eq_some_iff.1 HB3.out).1 (fun e => hgr (by injection e))).trans HB3.out) (.cells (exArr z (.slice A2 z.kids.toList.length c2)) 24)
          have hE5 := heap_alloc_last w4 (.cells (exArr z (.slice A2 z.kids.toList.length c2)) 24)
          have hZ5 : RdFo (w4.alloc (.cells (exArr z (.slice A2 z.kids.toList.length c2)) 24)) (Iv (w.heap.size + 1) (w4.alloc (.cells (exArr z (.slice A2 z.kids.toList.length c2)) 24)).heap.size) (.slice A2 z.kids.toList.length c2) z.kids := (hz.alloc (fun b hb => hb.2) _).more (fun b hb => ⟨by have := hb.1; have := HS3.out.lt; omega, by have := hb.2; rw [World.size_alloc]; omega⟩)
          clear hg hz hr4 h1 HH
          go_upto_region 15 with fail
          obtain ⟨g5, hg5⟩ : ∃ g, w4.heap.size = g := ⟨_, rfl⟩
          obtain ⟨W5, hW5⟩ : ∃ W, w4.alloc (.cells #[.int .i64 z.op, .int .i64 z.n, .string (str z.name), .slice A2 z.kids.toList.length c2] 24) = W := ⟨_, rfl⟩
          rw [show w4.alloc (.cells (exArr z (.slice A2 z.kids.toList.length c2)) 24) = W5 from hW5] at hS5 hB5 hE5 hZ5
          rw [hg5] at hE5
          rw [hg5, hW5]
          have HS5 := Lib.hid hS5
          have hd1 : W5.cell? ⟨g2, 1, none⟩ = some (.string (str y.text)) := cell_of_box hB5 rfl
          have HG := Lib.hid HS5.out.at_g
          have HG5 := Lib.hid (show W5.rangeAt g5 0 (exCells z (.slice A2 z.kids.toList.length c2)) from rangeAt_block hE5)
          have HZT := Lib.hid hZ5
          have HXT := Lib.hid (HS5.out.2.2.2.2.2.1.more (fun b hb => hb.1))
          have HLO := Lib.hid (show w.heap.size + 1 ≤ W5.heap.size by have := HS5.out.lt; omega)
          clear hS5 hB5 hE5 hZ5 hW5 hg5 HS3 HB3
          go_wp2_with (first
            | ((with_reducible refine ex_load g 0 x (.slice A1 x.kids.toList.length c1) ?hx HG.out ?_); (case hx => rfl))
            | ((with_reducible refine ex_load g5 0 z (.slice A2 z.kids.toList.length c2) ?hx HG5.out ?_); (case hx => rfl)))
          refine (node_any _ _ _ _ _).mono ?_
          rintro e w6 ⟨he, hb6⟩
          subst he
          have HB6 := Lib.hid hb6
          have HS6 := Lib.hid ((HS5.out.below ((Below.refl _ _).alloc (Nat.le_refl _) _)).below hb6)
          have HT6 := Lib.hid (two_slice (x := x) (y := z) HXT.out HZT.out HLO.out 24 hb6 6)
          clear hb6
          obtain ⟨cs, hcs, hres⟩ := HS6.out.2.2.2.1
          have HCS := Lib.hid hcs
          have HRES := Lib.hid hres
          clear hcs hres
          go_wp2_with (first
            | ((with_reducible refine ex_put w.heap.size (Saw.two 6 x z) (.slice (some ⟨W5.heap.size, 0, none⟩) 2 2) rfl ?hx ?hy HRES.out HCS ?_); (case hx => rfl); (case hy => rfl)))
          obtain ⟨p1, p2, p3, p4⟩ := HS6.out.toN.leave (x := Saw.two 6 x z) HT6.out (fun b hb => ⟨hb.1, hb.2⟩)
          exact bodyPost_ret (ex_res Tryd.results113 _ _ w.heap.size rfl p1) rfl ⟨p2, _, _, rfl, p3, p4⟩
      by_cases hT1 : y.text = [33, 61]
      · have f0 : ((str y.text).toList == [61]) = false := by rw [HTL.out, hT1]; rfl
        have f1 : ((str y.text).toList == [33, 61]) = true := by rw [HTL.out, hT1]; rfl
        have f2 : ((str y.text).toList == [60]) = false := by rw [HTL.out, hT1]; rfl
        have f3 : ((str y.text).toList == [60, 61]) = false := by rw [HTL.out, hT1]; rfl
        have f4 : ((str y.text).toList == [62]) = false := by rw [HTL.out, hT1]; rfl
        have f5 : ((str y.text).toList == [62, 61]) = false := by rw [HTL.out, hT1]; rfl
        have hcm : y.kind = 3 ∧ isCmp y.text = true := ⟨hk3, by rw [hT1]; rfl⟩
        have h9 := H2.out
        rw [if_pos hcm] at h9
        have hce : cmpE y.text x = fun b => Saw.one 9 (Saw.two 6 x b) := by rw [hT1]; rfl
        rw [hce] at h9
        have HH := Lib.hid h9
        have hk4 : k1 + 1 < xs.length := lxEnds_next HX.out.1 HK.out.2 (by rw [HY.out, hk3]; decide)
        clear hcm h9 hce hT1 hk3
        obtain ⟨c0, c1', f10, hlt1⟩ := HS2.out.1.cells
        go_upto_region 14 with fail
        have hS3 := HS2.out.pos (k1 + 1)
        have hB3 := hpS HB2.out (g' := rb) (i := 1) hgr (.int .i64 ((k1 : Int) + 1))
        obtain ⟨W3, hW3⟩ : ∃ W, W2.setCell ⟨rb, 1, none⟩ (.int .i64 ((k1 : Int) + 1)) = W := ⟨_, rfl⟩
        rw [show W2.setCell ⟨rb, 1, none⟩ (.int .i64 ((k1 + 1 : Nat) : Int)) = W3 from hW3] at hS3
        rw [hW3] at hB3 ⊢
        have HS3 := Lib.hid hS3
        have HB3 := Lib.hid hB3
        clear hS3 hB3 hW3 HS2 HB2 c0 c1' f10 hlt1 d0 d1
        go_wp2_with fail
        rcases andThen_some HH.out with ⟨er, off, h1, rfl⟩ | ⟨z, k2, h1, h2⟩
        · refine (HI.out .sum _ rfl _ _ h1 hk4 _ rb lv HS3.out.1 (HS3.out.rdx HL.out)).mono ?_
          rintro e w4 ⟨hg, he⟩
          subst he
          exact ⟨rfl, gb_trans HS3.out.2.1 hg, rfl⟩
        · injection h2 with h2
          subst h2
          refine (HI.out .sum _ rfl _ _ h1 hk4 _ rb lv HS3.out.1 (HS3.out.rdx HL.out)).mono ?_
          rintro e w4 ⟨hg, A2, c2, he, hz, hr4⟩
          subst he
          have hS5 := (HS3.out.call hr4 hg).below ((Below.refl _ _).alloc (Nat.le_refl _) (.cells (exArr z (.slice A2 z.kids.toList.length c2)) 24))
          have hB5 := hpA ((hg.block g2 (Array.getElem?_eq_some_iff.1 HB3.out).1 (fun e => hgr (by injection e))).trans HB3.out) (.cells (exArr z (.slice A2 z.kids.toList.length c2)) 24)
          have hE5 := heap_alloc_last w4 (.cells (exArr z (.slice A2 z.kids.toList.length c2)) 24)
          have hZ5 : RdFo (w4.alloc (.cells (exArr z (.slice A2 z.kids.toList.length c2)) 24)) (Iv (w.heap.size + 1) (w4.alloc (.cells (exArr z (.slice A2 z.kids.toList.length c2)) 24)).heap.size) (.slice A2 z.kids.toList.length c2) z.kids := (hz.alloc (fun b hb => hb.2) _).more (fun b hb => ⟨by have := hb.1; have := HS3.out.lt; omega, by have := hb.2; rw [World.size_alloc]; omega⟩)
          clear hg hz hr4 h1 HH
          go_upto_region 15 with fail
          obtain ⟨g5, hg5⟩ : ∃ g, w4.heap.size = g := ⟨_, rfl⟩
          obtain ⟨W5, hW5⟩ : ∃ W, w4.alloc (.cells #[.int .i64 z.op, .int .i64 z.n, .string (str z.name), .slice A2 z.kids.toList.length c2] 24) = W := ⟨_, rfl⟩
          rw [show w4.alloc (.cells (exArr z (.slice A2 z.kids.toList.length c2)) 24) = W5 from hW5] at hS5 hB5 hE5 hZ5
          rw [hg5] at hE5
          rw [hg5, hW5]
          have HS5 := Lib.hid hS5
          have hd1 : W5.cell? ⟨g2, 1, none⟩ = some (.string (str y.text)) := cell_of_box hB5 rfl
          have HG := Lib.hid HS5.out.at_g
          have HG5 := Lib.hid (show W5.rangeAt g5 0 (exCells z (.slice A2 z.kids.toList.length c2)) from rangeAt_block hE5)
          have HZT := Lib.hid hZ5
          have HXT := Lib.hid (HS5.out.2.2.2.2.2.1.more (fun b hb => hb.1))
          have HLO := Lib.hid (show w.heap.size + 1 ≤ W5.heap.size by have := HS5.out.lt; omega)
          clear hS5 hB5 hE5 hZ5 hW5 hg5 HS3 HB3
          go_wp2_with (first
            | ((with_reducible refine ex_load g 0 x (.slice A1 x.kids.toList.length c1) ?hx HG.out ?_); (case hx => rfl))
            | ((with_reducible refine ex_load g5 0 z (.slice A2 z.kids.toList.length c2) ?hx HG5.out ?_); (case hx => rfl)))
          refine (node_any _ _ _ _ _).mono ?_
          rintro e w6 ⟨he, hb6⟩
          subst he
          have HB6 := Lib.hid hb6
          have HS6 := Lib.hid ((HS5.out.below ((Below.refl _ _).alloc (Nat.le_refl _) _)).below hb6)
          have HT6 := Lib.hid (two_slice (x := x) (y := z) HXT.out HZT.out HLO.out 24 hb6 6)
          clear hb6
          go_wp2_with fail
          refine (node_any _ _ _ _ _).mono ?_
          rintro e w7 ⟨he, hb7⟩
          subst he
          have HS7 := Lib.hid ((HS6.out.below ((Below.refl _ _).alloc (Nat.le_refl _) _)).below hb7)
          have HT7 := Lib.hid (one_slice (y := Saw.two 6 x z) HT6.out (by have := HS6.out.lt; omega) 24 hb7 9)
          obtain ⟨cs, hcs, hres⟩ := HS7.out.2.2.2.1
          have HCS := Lib.hid hcs
          have HRES := Lib.hid hres
          clear hcs hres hb7
          go_wp2_with (first
            | ((with_reducible refine ex_put w.heap.size (Saw.one 9 (Saw.two 6 x z)) (.slice (some ⟨w6.heap.size, 0, none⟩) 1 1) rfl ?hx ?hy HRES.out HCS ?_); (case hx => rfl); (case hy => rfl)))
          obtain ⟨p1, p2, p3, p4⟩ := HS7.out.toN.leave (x := Saw.one 9 (Saw.two 6 x z)) HT7.out (fun b hb => ⟨hb.1, hb.2⟩)
          exact bodyPost_ret (ex_res Tryd.results113 _ _ w.heap.size rfl p1) rfl ⟨p2, _, _, rfl, p3, p4⟩
      by_cases hT2 : y.text = [60]
      · have f0 : ((str y.text).toList == [61]) = false := by rw [HTL.out, hT2]; rfl
        have f1 : ((str y.text).toList == [33, 61]) = false := by rw [HTL.out, hT2]; rfl
        have f2 : ((str y.text).toList == [60]) = true := by rw [HTL.out, hT2]; rfl
        have f3 : ((str y.text).toList == [60, 61]) = false := by rw [HTL.out, hT2]; rfl
        have f4 : ((str y.text).toList == [62]) = false := by rw [HTL.out, hT2]; rfl
        have f5 : ((str y.text).toList == [62, 61]) = false := by rw [HTL.out, hT2]; rfl
        have hcm : y.kind = 3 ∧ isCmp y.text = true := ⟨hk3, by rw [hT2]; rfl⟩
        have h9 := H2.out
        rw [if_pos hcm] at h9
        have hce : cmpE y.text x = fun b => Saw.two 7 x b := by rw [hT2]; rfl
        rw [hce] at h9
        have HH := Lib.hid h9
        have hk4 : k1 + 1 < xs.length := lxEnds_next HX.out.1 HK.out.2 (by rw [HY.out, hk3]; decide)
        clear hcm h9 hce hT2 hk3
        obtain ⟨c0, c1', f10, hlt1⟩ := HS2.out.1.cells
        go_upto_region 14 with fail
        have hS3 := HS2.out.pos (k1 + 1)
        have hB3 := hpS HB2.out (g' := rb) (i := 1) hgr (.int .i64 ((k1 : Int) + 1))
        obtain ⟨W3, hW3⟩ : ∃ W, W2.setCell ⟨rb, 1, none⟩ (.int .i64 ((k1 : Int) + 1)) = W := ⟨_, rfl⟩
        rw [show W2.setCell ⟨rb, 1, none⟩ (.int .i64 ((k1 + 1 : Nat) : Int)) = W3 from hW3] at hS3
        rw [hW3] at hB3 ⊢
        have HS3 := Lib.hid hS3
        have HB3 := Lib.hid hB3
        clear hS3 hB3 hW3 HS2 HB2 c0 c1' f10 hlt1 d0 d1
        go_wp2_with fail
        rcases andThen_some HH.out with ⟨er, off, h1, rfl⟩ | ⟨z, k2, h1, h2⟩
        · refine (HI.out .sum _ rfl _ _ h1 hk4 _ rb lv HS3.out.1 (HS3.out.rdx HL.out)).mono ?_
          rintro e w4 ⟨hg, he⟩
          subst he
          exact ⟨rfl, gb_trans HS3.out.2.1 hg, rfl⟩
        · injection h2 with h2
          subst h2
          refine (HI.out .sum _ rfl _ _ h1 hk4 _ rb lv HS3.out.1 (HS3.out.rdx HL.out)).mono ?_
          rintro e w4 ⟨hg, A2, c2, he, hz, hr4⟩
          subst he
          have hS5 := (HS3.out.call hr4 hg).below ((Below.refl _ _).alloc (Nat.le_refl _) (.cells (exArr z (.slice A2 z.kids.toList.length c2)) 24))
          have hB5 := hpA ((hg.block g2 (Array.getElem?_eq_some_iff.1 HB3.out).1 (fun e => hgr (by injection e))).trans HB3.out) (.cells (exArr z (.slice A2 z.kids.toList.length c2)) 24)
          have hE5 := heap_alloc_last w4 (.cells (exArr z (.slice A2 z.kids.toList.length c2)) 24)
          have hZ5 : RdFo (w4.alloc (.cells (exArr z (.slice A2 z.kids.toList.length c2)) 24)) (Iv (w.heap.size + 1) (w4.alloc (.cells (exArr z (.slice A2 z.kids.toList.length c2)) 24)).heap.size) (.slice A2 z.kids.toList.length c2) z.kids := (hz.alloc (fun b hb => hb.2) _).more (fun b hb => ⟨by have := hb.1; have := HS3.out.lt; omega, by have := hb.2; rw [World.size_alloc]; omega⟩)
          clear hg hz hr4 h1 HH
          go_upto_region 15 with fail
          obtain ⟨g5, hg5⟩ : ∃ g, w4.heap.size = g := ⟨_, rfl⟩
          obtain ⟨W5, hW5⟩ : ∃ W, w4.alloc (.cells #[.int .i64 z.op, .int .i64 z.n, .string (str z.name), .slice A2 z.kids.toList.length c2] 24) = W := ⟨_, rfl⟩
          rw [show w4.alloc (.cells (exArr z (.slice A2 z.kids.toList.length c2)) 24) = W5 from hW5] at hS5 hB5 hE5 hZ5
          rw [hg5] at hE5
          rw [hg5, hW5]
          have HS5 := Lib.hid hS5
          have hd1 : W5.cell? ⟨g2, 1, none⟩ = some (.string (str y.text)) := cell_of_box hB5 rfl
          have HG := Lib.hid HS5.out.at_g
          have HG5 := Lib.hid (show W5.rangeAt g5 0 (exCells z (.slice A2 z.kids.toList.length c2)) from rangeAt_block hE5)
          have HZT := Lib.hid hZ5
          have HXT := Lib.hid (HS5.out.2.2.2.2.2.1.more (fun b hb => hb.1))
          have HLO := Lib.hid (show w.heap.size + 1 ≤ W5.heap.size by have := HS5.out.lt; omega)
          clear hS5 hB5 hE5 hZ5 hW5 hg5 HS3 HB3
          go_wp2_with (first
            | ((with_reducible refine ex_load g 0 x (.slice A1 x.kids.toList.length c1) ?hx HG.out ?_); (case hx => rfl))
            | ((with_reducible refine ex_load g5 0 z (.slice A2 z.kids.toList.length c2) ?hx HG5.out ?_); (case hx => rfl)))
          refine (node_any _ _ _ _ _).mono ?_
          rintro e w6 ⟨he, hb6⟩
          subst he
          have HB6 := Lib.hid hb6
          have HS6 := Lib.hid ((HS5.out.below ((Below.refl _ _).alloc (Nat.le_refl _) _)).below hb6)
          have HT6 := Lib.hid (two_slice (x := x) (y := z) HXT.out HZT.out HLO.out 24 hb6 7)
          clear hb6
          obtain ⟨cs, hcs, hres⟩ := HS6.out.2.2.2.1
          have HCS := Lib.hid hcs
          have HRES := Lib.hid hres
          clear hcs hres
          go_wp2_with (first
            | ((with_reducible refine ex_put w.heap.size (Saw.two 7 x z) (.slice (some ⟨W5.heap.size, 0, none⟩) 2 2) rfl ?hx ?hy HRES.out HCS ?_); (case hx => rfl); (case hy => rfl)))
          obtain ⟨p1, p2, p3, p4⟩ := HS6.out.toN.leave (x := Saw.two 7 x z) HT6.out (fun b hb => ⟨hb.1, hb.2⟩)
          exact bodyPost_ret (ex_res Tryd.results113 _ _ w.heap.size rfl p1) rfl ⟨p2, _, _, rfl, p3, p4⟩
      by_cases hT3 : y.text = [60, 61]
      · have f0 : ((str y.text).toList == [61]) = false := by rw [HTL.out, hT3]; rfl
        have f1 : ((str y.text).toList == [33, 61]) = false := by rw [HTL.out, hT3]; rfl
        have f2 : ((str y.text).toList == [60]) = false := by rw [HTL.out, hT3]; rfl
        have f3 : ((str y.text).toList == [60, 61]) = true := by rw [HTL.out, hT3]; rfl
        have f4 : ((str y.text).toList == [62]) = false := by rw [HTL.out, hT3]; rfl
        have f5 : ((str y.text).toList == [62, 61]) = false := by rw [HTL.out, hT3]; rfl
        have hcm : y.kind = 3 ∧ isCmp y.text = true := ⟨hk3, by rw [hT3]; rfl⟩
        have h9 := H2.out
        rw [if_pos hcm] at h9
        have hce : cmpE y.text x = fun b => Saw.two 8 x b := by rw [hT3]; rfl
        rw [hce] at h9
        have HH := Lib.hid h9
        have hk4 : k1 + 1 < xs.length := lxEnds_next HX.out.1 HK.out.2 (by rw [HY.out, hk3]; decide)
        clear hcm h9 hce hT3 hk3
        obtain ⟨c0, c1', f10, hlt1⟩ := HS2.out.1.cells
        go_upto_region 14 with fail
        have hS3 := HS2.out.pos (k1 + 1)
        have hB3 := hpS HB2.out (g' := rb) (i := 1) hgr (.int .i64 ((k1 : Int) + 1))
        obtain ⟨W3, hW3⟩ : ∃ W, W2.setCell ⟨rb, 1, none⟩ (.int .i64 ((k1 : Int) + 1)) = W := ⟨_, rfl⟩
        rw [show W2.setCell ⟨rb, 1, none⟩ (.int .i64 ((k1 + 1 : Nat) : Int)) = W3 from hW3] at hS3
        rw [hW3] at hB3 ⊢
        have HS3 := Lib.hid hS3
        have HB3 := Lib.hid hB3
        clear hS3 hB3 hW3 HS2 HB2 c0 c1' f10 hlt1 d0 d1
        go_wp2_with fail
        rcases andThen_some HH.out with ⟨er, off, h1, rfl⟩ | ⟨z, k2, h1, h2⟩
        · refine (HI.out .sum _ rfl _ _ h1 hk4 _ rb lv HS3.out.1 (HS3.out.rdx HL.out)).mono ?_
          rintro e w4 ⟨hg, he⟩
          subst he
          exact ⟨rfl, gb_trans HS3.out.2.1 hg, rfl⟩
        · injection h2 with h2
          subst h2
          refine (HI.out .sum _ rfl _ _ h1 hk4 _ rb lv HS3.out.1 (HS3.out.rdx HL.out)).mono ?_
          rintro e w4 ⟨hg, A2, c2, he, hz, hr4⟩
          subst he
          have hS5 := (HS3.out.call hr4 hg).below ((Below.refl _ _).alloc (Nat.le_refl _) (.cells (exArr z (.slice A2 z.kids.toList.length c2)) 24))
          have hB5 := hpA ((hg.block g2 (Array.getElem?_eq_some_iff.1 HB3.out).1 (fun e => hgr (by injection e))).trans HB3.out) (.cells (exArr z (.slice A2 z.kids.toList.length c2)) 24)
          have hE5 := heap_alloc_last w4 (.cells (exArr z (.slice A2 z.kids.toList.length c2)) 24)
          have hZ5 : RdFo (w4.alloc (.cells (exArr z (.slice A2 z.kids.toList.length c2)) 24)) (Iv (w.heap.size + 1) (w4.alloc (.cells (exArr z (.slice A2 z.kids.toList.length c2)) 24)).heap.size) (.slice A2 z.kids.toList.length c2) z.kids := (hz.alloc (fun b hb => hb.2) _).more (fun b hb => ⟨by have := hb.1; have := HS3.out.lt; omega, by have := hb.2; rw [World.size_alloc]; omega⟩)
          clear hg hz hr4 h1 HH
          go_upto_region 15 with fail
          obtain ⟨g5, hg5⟩ : ∃ g, w4.heap.size = g := ⟨_, rfl⟩
          obtain ⟨W5, hW5⟩ : ∃ W, w4.alloc (.cells #[.int .i64 z.op, .int .i64 z.n, .string (str z.name), .slice A2 z.kids.toList.length c2] 24) = W := ⟨_, rfl⟩
          rw [show w4.alloc (.cells (exArr z (.slice A2 z.kids.toList.length c2)) 24) = W5 from hW5] at hS5 hB5 hE5 hZ5
          rw [hg5] at hE5
          rw [hg5, hW5]
          have HS5 := Lib.hid hS5
          have hd1 : W5.cell? ⟨g2, 1, none⟩ = some (.string (str y.text)) := cell_of_box hB5 rfl
          have HG := Lib.hid HS5.out.at_g
          have HG5 := Lib.hid (show W5.rangeAt g5 0 (exCells z (.slice A2 z.kids.toList.length c2)) from rangeAt_block hE5)
          have HZT := Lib.hid hZ5
          have HXT := Lib.hid (HS5.out.2.2.2.2.2.1.more (fun b hb => hb.1))
          have HLO := Lib.hid (show w.heap.size + 1 ≤ W5.heap.size by have := HS5.out.lt; omega)
          clear hS5 hB5 hE5 hZ5 hW5 hg5 HS3 HB3
          go_wp2_with (first
            | ((with_reducible refine ex_load g 0 x (.slice A1 x.kids.toList.length c1) ?hx HG.out ?_); (case hx => rfl))
            | ((with_reducible refine ex_load g5 0 z (.slice A2 z.kids.toList.length c2) ?hx HG5.out ?_); (case hx => rfl)))
          refine (node_any _ _ _ _ _).mono ?_
          rintro e w6 ⟨he, hb6⟩
          subst he
          have HB6 := Lib.hid hb6
          have HS6 := Lib.hid ((HS5.out.below ((Below.refl _ _).alloc (Nat.le_refl _) _)).below hb6)
          have HT6 := Lib.hid (two_slice (x := x) (y := z) HXT.out HZT.out HLO.out 24 hb6 8)
          clear hb6
          obtain ⟨cs, hcs, hres⟩ := HS6.out.2.2.2.1
          have HCS := Lib.hid hcs
          have HRES := Lib.hid hres
          clear hcs hres
          go_wp2_with (first
            | ((with_reducible refine ex_put w.heap.size (Saw.two 8 x z) (.slice (some ⟨W5.heap.size, 0, none⟩) 2 2) rfl ?hx ?hy HRES.out HCS ?_); (case hx => rfl); (case hy => rfl)))
          obtain ⟨p1, p2, p3, p4⟩ := HS6.out.toN.leave (x := Saw.two 8 x z) HT6.out (fun b hb => ⟨hb.1, hb.2⟩)
          exact bodyPost_ret (ex_res Tryd.results113 _ _ w.heap.size rfl p1) rfl ⟨p2, _, _, rfl, p3, p4⟩
      by_cases hT4 : y.text = [62]
      · have f0 : ((str y.text).toList == [61]) = false := by rw [HTL.out, hT4]; rfl
        have f1 : ((str y.text).toList == [33, 61]) = false := by rw [HTL.out, hT4]; rfl
        have f2 : ((str y.text).toList == [60]) = false := by rw [HTL.out, hT4]; rfl
        have f3 : ((str y.text).toList == [60, 61]) = false := by rw [HTL.out, hT4]; rfl
        have f4 : ((str y.text).toList == [62]) = true := by rw [HTL.out, hT4]; rfl
        have f5 : ((str y.text).toList == [62, 61]) = false := by rw [HTL.out, hT4]; rfl
        have hcm : y.kind = 3 ∧ isCmp y.text = true := ⟨hk3, by rw [hT4]; rfl⟩
        have h9 := H2.out
        rw [if_pos hcm] at h9
        have hce : cmpE y.text x = fun b => Saw.two 7 b x := by rw [hT4]; rfl
        rw [hce] at h9
        have HH := Lib.hid h9
        have hk4 : k1 + 1 < xs.length := lxEnds_next HX.out.1 HK.out.2 (by rw [HY.out, hk3]; decide)
        clear hcm h9 hce hT4 hk3
        obtain ⟨c0, c1', f10, hlt1⟩ := HS2.out.1.cells
        go_upto_region 14 with fail
        have hS3 := HS2.out.pos (k1 + 1)
        have hB3 := hpS HB2.out (g' := rb) (i := 1) hgr (.int .i64 ((k1 : Int) + 1))
        obtain ⟨W3, hW3⟩ : ∃ W, W2.setCell ⟨rb, 1, none⟩ (.int .i64 ((k1 : Int) + 1)) = W := ⟨_, rfl⟩
        rw [show W2.setCell ⟨rb, 1, none⟩ (.int .i64 ((k1 + 1 : Nat) : Int)) = W3 from hW3] at hS3
        rw [hW3] at hB3 ⊢
        have HS3 := Lib.hid hS3
        have HB3 := Lib.hid hB3
        clear hS3 hB3 hW3 HS2 HB2 c0 c1' f10 hlt1 d0 d1
        go_wp2_with fail
        rcases andThen_some HH.out with ⟨er, off, h1, rfl⟩ | ⟨z, k2, h1, h2⟩
        · refine (HI.out .sum _ rfl _ _ h1 hk4 _ rb lv HS3.out.1 (HS3.out.rdx HL.out)).mono ?_
          rintro e w4 ⟨hg, he⟩
          subst he
          exact ⟨rfl, gb_trans HS3.out.2.1 hg, rfl⟩
        · injection h2 with h2
          subst h2
          refine (HI.out .sum _ rfl _ _ h1 hk4 _ rb lv HS3.out.1 (HS3.out.rdx HL.out)).mono ?_
          rintro e w4 ⟨hg, A2, c2, he, hz, hr4⟩
          subst he
          have hS5 := (HS3.out.call hr4 hg).below ((Below.refl _ _).alloc (Nat.le_refl _) (.cells (exArr z (.slice A2 z.kids.toList.length c2)) 24))
          have hB5 := hpA ((hg.block g2 (Array.getElem?_eq_some_iff.1 HB3.out).1 (fun e => hgr (by injection e))).trans HB3.out) (.cells (exArr z (.slice A2 z.kids.toList.length c2)) 24)
          have hE5 := heap_alloc_last w4 (.cells (exArr z (.slice A2 z.kids.toList.length c2)) 24)
          have hZ5 : RdFo (w4.alloc (.cells (exArr z (.slice A2 z.kids.toList.length c2)) 24)) (Iv (w.heap.size + 1) (w4.alloc (.cells (exArr z (.slice A2 z.kids.toList.length c2)) 24)).heap.size) (.slice A2 z.kids.toList.length c2) z.kids := (hz.alloc (fun b hb => hb.2) _).more (fun b hb => ⟨by have := hb.1; have := HS3.out.lt; omega, by have := hb.2; rw [World.size_alloc]; omega⟩)
          clear hg hz hr4 h1 HH
          go_upto_region 15 with fail
          obtain ⟨g5, hg5⟩ : ∃ g, w4.heap.size = g := ⟨_, rfl⟩
          obtain ⟨W5, hW5⟩ : ∃ W, w4.alloc (.cells #[.int .i64 z.op, .int .i64 z.n, .string (str z.name), .slice A2 z.kids.toList.length c2] 24) = W := ⟨_, rfl⟩
          rw [show w4.alloc (.cells (exArr z (.slice A2 z.kids.toList.length c2)) 24) = W5 from hW5] at hS5 hB5 hE5 hZ5
          rw [hg5] at hE5
          rw [hg5, hW5]
          have HS5 := Lib.hid hS5
          have hd1 : W5.cell? ⟨g2, 1, none⟩ = some (.string (str y.text)) := cell_of_box hB5 rfl
          have HG := Lib.hid HS5.out.at_g
          have HG5 := Lib.hid (show W5.rangeAt g5 0 (exCells z (.slice A2 z.kids.toList.length c2)) from rangeAt_block hE5)
          have HZT := Lib.hid hZ5
          have HXT := Lib.hid (HS5.out.2.2.2.2.2.1.more (fun b hb => hb.1))
          have HLO := Lib.hid (show w.heap.size + 1 ≤ W5.heap.size by have := HS5.out.lt; omega)
          clear hS5 hB5 hE5 hZ5 hW5 hg5 HS3 HB3
          go_wp2_with (first
            | ((with_reducible refine ex_load g 0 x (.slice A1 x.kids.toList.length c1) ?hx HG.out ?_); (case hx => rfl))
            | ((with_reducible refine ex_load g5 0 z (.slice A2 z.kids.toList.length c2) ?hx HG5.out ?_); (case hx => rfl)))
          refine (node_any _ _ _ _ _).mono ?_
          rintro e w6 ⟨he, hb6⟩
          subst he
          have HB6 := Lib.hid hb6
          have HS6 := Lib.hid ((HS5.out.below ((Below.refl _ _).alloc (Nat.le_refl _) _)).below hb6)
          have HT6 := Lib.hid (two_slice (x := z) (y := x) HZT.out HXT.out HLO.out 24 hb6 7)
          clear hb6
          obtain ⟨cs, hcs, hres⟩ := HS6.out.2.2.2.1
          have HCS := Lib.hid hcs
          have HRES := Lib.hid hres
          clear hcs hres
          go_wp2_with (first
            | ((with_reducible refine ex_put w.heap.size (Saw.two 7 z x) (.slice (some ⟨W5.heap.size, 0, none⟩) 2 2) rfl ?hx ?hy HRES.out HCS ?_); (case hx => rfl); (case hy => rfl)))
          obtain ⟨p1, p2, p3, p4⟩ := HS6.out.toN.leave (x := Saw.two 7 z x) HT6.out (fun b hb => ⟨hb.1, hb.2⟩)
          exact bodyPost_ret (ex_res Tryd.results113 _ _ w.heap.size rfl p1) rfl ⟨p2, _, _, rfl, p3, p4⟩
      by_cases hT5 : y.text = [62, 61]
      · have f0 : ((str y.text).toList == [61]) = false := by rw [HTL.out, hT5]; rfl
        have f1 : ((str y.text).toList == [33, 61]) = false := by rw [HTL.out, hT5]; rfl
        have f2 : ((str y.text).toList == [60]) = false := by rw [HTL.out, hT5]; rfl
        have f3 : ((str y.text).toList == [60, 61]) = false := by rw [HTL.out, hT5]; rfl
        have f4 : ((str y.text).toList == [62]) = false := by rw [HTL.out, hT5]; rfl
        have f5 : ((str y.text).toList == [62, 61]) = true := by rw [HTL.out, hT5]; rfl
        have hcm : y.kind = 3 ∧ isCmp y.text = true := ⟨hk3, by rw [hT5]; rfl⟩
        have h9 := H2.out
        rw [if_pos hcm] at h9
        have hce : cmpE y.text x = fun b => Saw.two 8 b x := by rw [hT5]; rfl
        rw [hce] at h9
        have HH := Lib.hid h9
        have hk4 : k1 + 1 < xs.length := lxEnds_next HX.out.1 HK.out.2 (by rw [HY.out, hk3]; decide)
        clear hcm h9 hce hT5 hk3
        obtain ⟨c0, c1', f10, hlt1⟩ := HS2.out.1.cells
        go_upto_region 14 with fail
        have hS3 := HS2.out.pos (k1 + 1)
        have hB3 := hpS HB2.out (g' := rb) (i := 1) hgr (.int .i64 ((k1 : Int) + 1))
        obtain ⟨W3, hW3⟩ : ∃ W, W2.setCell ⟨rb, 1, none⟩ (.int .i64 ((k1 : Int) + 1)) = W := ⟨_, rfl⟩
        rw [show W2.setCell ⟨rb, 1, none⟩ (.int .i64 ((k1 + 1 : Nat) : Int)) = W3 from hW3] at hS3
        rw [hW3] at hB3 ⊢
        have HS3 := Lib.hid hS3
        have HB3 := Lib.hid hB3
        clear hS3 hB3 hW3 HS2 HB2 c0 c1' f10 hlt1 d0 d1
        go_wp2_with fail
        rcases andThen_some HH.out with ⟨er, off, h1, rfl⟩ | ⟨z, k2, h1, h2⟩
        · refine (HI.out .sum _ rfl _ _ h1 hk4 _ rb lv HS3.out.1 (HS3.out.rdx HL.out)).mono ?_
          rintro e w4 ⟨hg, he⟩
          subst he
          exact ⟨rfl, gb_trans HS3.out.2.1 hg, rfl⟩
        · injection h2 with h2
          subst h2
          refine (HI.out .sum _ rfl _ _ h1 hk4 _ rb lv HS3.out.1 (HS3.out.rdx HL.out)).mono ?_
          rintro e w4 ⟨hg, A2, c2, he, hz, hr4⟩
          subst he
          have hS5 := (HS3.out.call hr4 hg).below ((Below.refl _ _).alloc (Nat.le_refl _) (.cells (exArr z (.slice A2 z.kids.toList.length c2)) 24))
          have hB5 := hpA ((hg.block g2 (Array.getElem?_eq_some_iff.1 HB3.out).1 (fun e => hgr (by injection e))).trans HB3.out) (.cells (exArr z (.slice A2 z.kids.toList.length c2)) 24)
          have hE5 := heap_alloc_last w4 (.cells (exArr z (.slice A2 z.kids.toList.length c2)) 24)
          have hZ5 : RdFo (w4.alloc (.cells (exArr z (.slice A2 z.kids.toList.length c2)) 24)) (Iv (w.heap.size + 1) (w4.alloc (.cells (exArr z (.slice A2 z.kids.toList.length c2)) 24)).heap.size) (.slice A2 z.kids.toList.length c2) z.kids := (hz.alloc (fun b hb => hb.2) _).more (fun b hb => ⟨by have := hb.1; have := HS3.out.lt; omega, by have := hb.2; rw [World.size_alloc]; omega⟩)
          clear hg hz hr4 h1 HH
          go_upto_region 15 with fail
          obtain ⟨g5, hg5⟩ : ∃ g, w4.heap.size = g := ⟨_, rfl⟩
          obtain ⟨W5, hW5⟩ : ∃ W, w4.alloc (.cells #[.int .i64 z.op, .int .i64 z.n, .string (str z.name), .slice A2 z.kids.toList.length c2] 24) = W := ⟨_, rfl⟩
          rw [show w4.alloc (.cells (exArr z (.slice A2 z.kids.toList.length c2)) 24) = W5 from hW5] at hS5 hB5 hE5 hZ5
          rw [hg5] at hE5
          rw [hg5, hW5]
          have HS5 := Lib.hid hS5
          have hd1 : W5.cell? ⟨g2, 1, none⟩ = some (.string (str y.text)) := cell_of_box hB5 rfl
          have HG := Lib.hid HS5.out.at_g
          have HG5 := Lib.hid (show W5.rangeAt g5 0 (exCells z (.slice A2 z.kids.toList.length c2)) from rangeAt_block hE5)
          have HZT := Lib.hid hZ5
          have HXT := Lib.hid (HS5.out.2.2.2.2.2.1.more (fun b hb => hb.1))
          have HLO := Lib.hid (show w.heap.size + 1 ≤ W5.heap.size by have := HS5.out.lt; omega)
          clear hS5 hB5 hE5 hZ5 hW5 hg5 HS3 HB3
          go_wp2_with (first
            | ((with_reducible refine ex_load g 0 x (.slice A1 x.kids.toList.length c1) ?hx HG.out ?_); (case hx => rfl))
            | ((with_reducible refine ex_load g5 0 z (.slice A2 z.kids.toList.length c2) ?hx HG5.out ?_); (case hx => rfl)))
          refine (node_any _ _ _ _ _).mono ?_
          rintro e w6 ⟨he, hb6⟩
          subst he
          have HB6 := Lib.hid hb6
          have HS6 := Lib.hid ((HS5.out.below ((Below.refl _ _).alloc (Nat.le_refl _) _)).below hb6)
          have HT6 := Lib.hid (two_slice (x := z) (y := x) HZT.out HXT.out HLO.out 24 hb6 8)
          clear hb6
          obtain ⟨cs, hcs, hres⟩ := HS6.out.2.2.2.1
          have HCS := Lib.hid hcs
          have HRES := Lib.hid hres
          clear hcs hres
          go_wp2_with (first
            | ((with_reducible refine ex_put w.heap.size (Saw.two 8 z x) (.slice (some ⟨W5.heap.size, 0, none⟩) 2 2) rfl ?hx ?hy HRES.out HCS ?_); (case hx => rfl); (case hy => rfl)))
          obtain ⟨p1, p2, p3, p4⟩ := HS6.out.toN.leave (x := Saw.two 8 z x) HT6.out (fun b hb => ⟨hb.1, hb.2⟩)
          exact bodyPost_ret (ex_res Tryd.results113 _ _ w.heap.size rfl p1) rfl ⟨p2, _, _, rfl, p3, p4⟩
      have f0 : ((str y.text).toList == [61]) = false := by rw [HTL.out, beq_eq_false_iff_ne]; exact hT0
      have f1 : ((str y.text).toList == [33, 61]) = false := by rw [HTL.out, beq_eq_false_iff_ne]; exact hT1
      have f2 : ((str y.text).toList == [60]) = false := by rw [HTL.out, beq_eq_false_iff_ne]; exact hT2
      have f3 : ((str y.text).toList == [60, 61]) = false := by rw [HTL.out, beq_eq_false_iff_ne]; exact hT3
      have f4 : ((str y.text).toList == [62]) = false := by rw [HTL.out, beq_eq_false_iff_ne]; exact hT4
      have f5 : ((str y.text).toList == [62, 61]) = false := by rw [HTL.out, beq_eq_false_iff_ne]; exact hT5
      have hcm : ¬ (y.kind = 3 ∧ isCmp y.text = true) := fun h8 => by
        have h7 := h8.2
        simp only [isCmp, Bool.or_eq_true, beq_iff_eq] at h7
        rcases h7 with ((((h7 | h7) | h7) | h7) | h7) | h7
        · exact hT0 h7
        · exact hT1 h7
        · exact hT2 h7
        · exact hT3 h7
        · exact hT4 h7
        · exact hT5 h7
      have h9 := H2.out
      rw [if_neg hcm] at h9
      injection h9 with h9
      subst h9
      have HG := Lib.hid HS2.out.at_g
      obtain ⟨cs, hcs, hres⟩ := HS2.out.2.2.2.1
      have HCS := Lib.hid hcs
      have HRES := Lib.hid hres
      clear hcs hres hk3 hcm hT0 hT1 hT2 hT3 hT4 hT5
      go_wp2_with (first
        | ((with_reducible refine ex_load g 0 x (.slice A1 x.kids.toList.length c1) ?hx HG.out ?_); (case hx => rfl))
        | ((with_reducible refine ex_put w.heap.size x (.slice A1 x.kids.toList.length c1) rfl ?hx ?hy HRES.out HCS ?_); (case hx => rfl); (case hy => rfl)))
      obtain ⟨p1, p2, p3, p4⟩ := HS2.out.leave
      exact bodyPost_ret (ex_res Tryd.results113 _ _ w.heap.size rfl p1) rfl ⟨p2, _, _, rfl, p3, p4⟩
    · have hk3b : (y.kind != 3) = true := by rw [bne_iff_ne]; exact hk3
      have h9 := H2.out
      rw [if_neg (fun h => hk3 h.1)] at h9
      injection h9 with h9
      subst h9
      have HG := Lib.hid HS2.out.at_g
      obtain ⟨cs, hcs, hres⟩ := HS2.out.2.2.2.1
      have HCS := Lib.hid hcs
      have HRES := Lib.hid hres
      clear hcs hres hk3
      go_wp2_with (first
        | ((with_reducible refine ex_load g 0 x (.slice A1 x.kids.toList.length c1) ?hx HG.out ?_); (case hx => rfl))
        | ((with_reducible refine ex_put w.heap.size x (.slice A1 x.kids.toList.length c1) rfl ?hx ?hy HRES.out HCS ?_); (case hx => rfl); (case hy => rfl)))
      obtain ⟨p1, p2, p3, p4⟩ := HS2.out.leave
      exact bodyPost_ret (ex_res Tryd.results113 _ _ w.heap.size rfl p1) rfl ⟨p2, _, _, rfl, p3, p4⟩

end Go.Proofs.YtkalkglllgebkaaDoor
