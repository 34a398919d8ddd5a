/-
  The contract of sawmillref19.Format.
-/
import Derived.Test.YtokgonpeolppnaaDoorPrL
import Derived.Test.YtokgonpeolppnaaDoorPrW
import Derived.Test.YtokgonpeolppnaaDoorPrF
import Derived.Test.YtokgonpeolppnaaDoorQuiet
namespace Go.Proofs.YtokgonpeolppnaaDoor
open Go.RowKit Saw Go.Sort

set_option maxRecDepth 100000 in
set_option maxHeartbeats 2000000 in
theorem refPrFormat_any (l : List Pr) (v : Value) (w : World) (hrd : RdPr w w.heap.size v l) (hnm : ∀ x ∈ l, x.name.length ≤ 1000000) :
    Calls Tryd.prog 25 #[v] w (StrPost (formatPr l) w) := by
  obtain ⟨A, c, rfl, hc, hml⟩ := hrd.form
  obtain ⟨r, hr⟩ : ∃ r, formatPr l = r := ⟨_, rfl⟩
  rw [hr]
  unfold maxLen at hml
  have HR := Lib.hid hr
  have HRD := Lib.hid hrd
  have HNM := Lib.hid hnm
  clear hr hrd hnm
  go_enter Tryd.func25, Tryd.ntmps25
  go_wp2_with fail
  refine (refPrCheck_any l _ _ HRD.out HNM.out).mono ?_
  rintro e w1 ⟨he, hb1⟩
  obtain ⟨q, hq⟩ : ∃ q, checkPr l = q := ⟨_, rfl⟩
  rw [hq] at he
  subst he
  have HB1 := Lib.hid hb1
  have hsz1 := hb1.size
  clear hb1
  by_cases hq0 : q = 0
  · subst hq0
    obtain ⟨hl8, hall⟩ := checkPr_ok hq
    have hrf : l.flatMap prText = r := by rw [← HR.out, formatPr, if_pos hq]
    have HRF := Lib.hid hrf
    have HALL := Lib.hid hall
    clear hq hall hrf HR
    go_wp2_with fail
    go_loopw [3, 4] (fun s i wr => ∃ (k : Nat) (tt : ByteArray), k ≤ l.length ∧ i = .int .i64 k ∧ s = .string tt ∧ bts tt = (l.take k).flatMap prText ∧ Below w.heap.size w wr) (fun _ i _ => l.length - (intOf i).toNat)
    case atStart => exact ⟨0, ⟨#[]⟩, by omega, rfl, rfl, rfl, HB1.out⟩
    case round =>
      obtain ⟨k, tt, hk, rfl, rfl, htt, hb⟩ := hrel
      have HTT := Lib.hid htt
      have HB := Lib.hid hb
      have hszr := hb.size
      have hal : tt.size ≤ k * 504 := by rw [size_bts, htt]; exact prTexts_len (fun i x hx => HALL.out i x hx) k hk
      clear hb htt
      by_cases hlt : k < l.length
      · have hx : l[k]? = some l[k] := List.getElem?_eq_getElem hlt
        obtain ⟨x, hxe⟩ : ∃ x, l[k] = x := ⟨_, rfl⟩
        rw [hxe] at hx
        obtain ⟨hxn, _, hxc⟩ := HALL.out k x hx
        have hok := prOk_of hxc
        obtain ⟨b, off, A1, c1, A2, c2, rfl, hbl, hm1, hm2, hri, hrp, hrg⟩ := rdPr_rng HRD.out hx
        have HRG := Lib.hid (rangeAt_below HB.out hbl hrg)
        have hnl := isNameP_len hxn
        have HX := Lib.hid hx
        have hsn : (str x.name).size ≤ 16 := by rw [size_str]; omega
        have HOK := Lib.hid hok
        have HXN := Lib.hid hxn
        have HRI := Lib.hid hri
        have HRP := Lib.hid hrp
        unfold maxLen at hm1 hm2
        have t1 := hok.t1; have t2 := hok.t2; have t3 := hok.w1; have t4 := hok.w2; have t5 := hok.a1; have t6 := hok.a2; have t7 := hok.n1; have t8 := hok.n2
        clear hx hxn hxe hxc hrg hok hri hrp
        go_wp2_with (first
          | ((with_reducible refine pr_load b (off + k * 7) x (.slice A1 x.lens.length c1) (.slice A2 x.prices.length c2) ?hx HRG.out ?_); (case hx => rfl))
          | ((with_reducible refine pr_alloc ?_); intro c5 H5)
          | ((with_reducible refine pr_new x (.slice A1 x.lens.length c1) (.slice A2 x.prices.length c2) wr.heap.size rfl rfl ?hx rfl ?hy H5 ?_); (case hx => rfl); (case hy => rfl)))
        obtain ⟨N, hN⟩ : ∃ N, wr.heap.size = N := ⟨_, rfl⟩
        obtain ⟨V, hV⟩ : ∃ V, wr.alloc (.cells (prCells x (.slice A1 x.lens.length c1) (.slice A2 x.prices.length c2)).toArray 29) = V := ⟨_, rfl⟩
        have HNV := Lib.hid (show V.heap[N]? = some (.cells (prCells x (.slice A1 x.lens.length c1) (.slice A2 x.prices.length c2)).toArray 29 (0, 0)) by rw [← hV, ← hN]; exact heap_alloc_last wr _)
        have hNV : N < V.heap.size := by rw [← hV, World.size_alloc]; omega
        have HBV := Lib.hid (show Below w.heap.size w V by rw [← hV]; exact HB.out.alloc hszr _)
        have hszV := HBV.out.size
        have hhl := prHead_len HXN.out HOK.out
        rw [hV, hN]
        clear hV HB HRG
        obtain ⟨d1, hd1⟩ : ∃ d1, str (Lib.itoa x.thick) = d1 := ⟨_, rfl⟩
        obtain ⟨d2, hd2⟩ : ∃ d2, str (Lib.itoa x.width) = d2 := ⟨_, rfl⟩
        obtain ⟨d3, hd3⟩ : ∃ d3, str (Lib.itoa x.allow) = d3 := ⟨_, rfl⟩
        obtain ⟨d4, hd4⟩ : ∃ d4, str (Lib.itoa x.wane) = d4 := ⟨_, rfl⟩
        have D1 : Hid (∀ W, Calls Tryd.prog 44 #[.int .i64 x.thick] W fun e w' => e = .returned (.string d1) ∧ Below W.heap.size W w') := fun W => by rw [← hd1]; exact prNumber_any _ (by omega) (by omega) W
        have s1 : d1.size ≤ 21 := by rw [← hd1]; exact sz_itoa x.thick (by omega) (by omega)
        have D2 : Hid (∀ W, Calls Tryd.prog 44 #[.int .i64 x.width] W fun e w' => e = .returned (.string d2) ∧ Below W.heap.size W w') := fun W => by rw [← hd2]; exact prNumber_any _ (by omega) (by omega) W
        have s2 : d2.size ≤ 21 := by rw [← hd2]; exact sz_itoa x.width (by omega) (by omega)
        have D3 : Hid (∀ W, Calls Tryd.prog 44 #[.int .i64 x.allow] W fun e w' => e = .returned (.string d3) ∧ Below W.heap.size W w') := fun W => by rw [← hd3]; exact prNumber_any _ (by omega) (by omega) W
        have s3 : d3.size ≤ 21 := by rw [← hd3]; exact sz_itoa x.allow (by omega) (by omega)
        have D4 : Hid (∀ W, Calls Tryd.prog 44 #[.int .i64 x.wane] W fun e w' => e = .returned (.string d4) ∧ Below W.heap.size W w') := fun W => by rw [← hd4]; exact prNumber_any _ (by omega) (by omega) W
        have s4 : d4.size ≤ 21 := by rw [← hd4]; exact sz_itoa x.wane (by omega) (by omega)
        have HD := Lib.hid (And.intro hd1 (And.intro hd2 (And.intro hd3 hd4)))
        have y0 : ∀ d os, (grow (redrawn V d) os).cell? ⟨N, 0, none⟩ = some (.string (str x.name)) := fun d os => cell_regrown (cell_box HNV.out rfl) d os
        have y1 : ∀ d os, (grow (redrawn V d) os).cell? ⟨N, 1, none⟩ = some (.int .i64 x.thick) := fun d os => cell_regrown (cell_box HNV.out rfl) d os
        have y2 : ∀ d os, (grow (redrawn V d) os).cell? ⟨N, 2, none⟩ = some (.int .i64 x.width) := fun d os => cell_regrown (cell_box HNV.out rfl) d os
        have y3 : ∀ d os, (grow (redrawn V d) os).cell? ⟨N, 3, none⟩ = some (.int .i64 x.allow) := fun d os => cell_regrown (cell_box HNV.out rfl) d os
        have y4 : ∀ d os, (grow (redrawn V d) os).cell? ⟨N, 4, none⟩ = some (.int .i64 x.wane) := fun d os => cell_regrown (cell_box HNV.out rfl) d os
        have g1 : ¬ 9223372036854775807 < tt.size + 8 := by omega
        have g2 : ¬ 9223372036854775807 < tt.size + 8 + (str x.name).size := by omega
        have g3 : ¬ 9223372036854775807 < tt.size + 8 + (str x.name).size + 1 := by omega
        have g4 : ¬ 9223372036854775807 < tt.size + 8 + (str x.name).size + 1 + d1.size := by omega
        have g5 : ¬ 9223372036854775807 < tt.size + 8 + (str x.name).size + 1 + d1.size + 3 := by omega
        have g6 : ¬ 9223372036854775807 < tt.size + 8 + (str x.name).size + 1 + d1.size + 3 + d2.size := by omega
        have g7 : ¬ 9223372036854775807 < tt.size + 8 + (str x.name).size + 1 + d1.size + 3 + d2.size + 7 := by omega
        have g8 : ¬ 9223372036854775807 < tt.size + 8 + (str x.name).size + 1 + d1.size + 3 + d2.size + 7 + d3.size := by omega
        have g9 : ¬ 9223372036854775807 < tt.size + 8 + (str x.name).size + 1 + d1.size + 3 + d2.size + 7 + d3.size + 6 := by omega
        have g10 : ¬ 9223372036854775807 < tt.size + 8 + (str x.name).size + 1 + d1.size + 3 + d2.size + 7 + d3.size + 6 + d4.size := by omega
        have g11 : ¬ 9223372036854775807 < tt.size + 8 + (str x.name).size + 1 + d1.size + 3 + d2.size + 7 + d3.size + 6 + d4.size + 1 := by omega
        clear hd1 hd2 hd3 hd4
        refine wp_region_quiet_below (by kernel_rfl) (by kernel_rfl) ?_
        repeat (first
          | (open Go.BigFrame in go_big_quiet_step ((first | (with_reducible exact Calls.regrown_of (D1.out _)) | (with_reducible exact Calls.regrown_of (D2.out _)) | (with_reducible exact Calls.regrown_of (D3.out _)) | (with_reducible exact Calls.regrown_of (D4.out _)))))
          | (quiet_step ((first | (with_reducible exact Calls.regrown_of (D1.out _)) | (with_reducible exact Calls.regrown_of (D2.out _)) | (with_reducible exact Calls.regrown_of (D3.out _)) | (with_reducible exact Calls.regrown_of (D4.out _))))))
        refine wpQuiet_nil ?_
        rintro w6 ⟨p6, hw6⟩
        have hb6 : Below V.heap.size V w6 := by rw [hw6]; exact below_regrown _ _ _
        have HB6 := Lib.hid (HBV.out.trans (hb6.mono hszV))
        have HN6 := Lib.hid ((hb6.block N hNV).trans HNV.out)
        obtain ⟨tq, htq⟩ : ∃ tq : ByteArray, tt ++ ⟨#[112, 114, 111, 100, 117, 99, 116, 32]⟩ ++ str x.name ++ ⟨#[32]⟩ ++ d1 ++ ⟨#[32, 120, 32]⟩ ++ d2 ++ ⟨#[32, 97, 108, 108, 111, 119, 32]⟩ ++ d3 ++ ⟨#[32, 119, 97, 110, 101, 32]⟩ ++ d4 ++ ⟨#[58]⟩ = tq := ⟨_, rfl⟩
        have hbq : bts tq = (l.take k).flatMap prText ++ prHeadA x ++ prHeadB x := by
          rw [← htq, prHeadA, prHeadB]
          simp only [bts_append, ← HD.out.1, ← HD.out.2.1, ← HD.out.2.2.1, ← HD.out.2.2.2, bts_str, HTT.out]
          simp only [show bts ⟨#[112, 114, 111, 100, 117, 99, 116, 32]⟩ = [112, 114, 111, 100, 117, 99, 116, 32] from rfl, show bts ⟨#[32]⟩ = [32] from rfl, show bts ⟨#[32, 120, 32]⟩ = [32, 120, 32] from rfl, show bts ⟨#[32, 97, 108, 108, 111, 119, 32]⟩ = [32, 97, 108, 108, 111, 119, 32] from rfl, show bts ⟨#[32, 119, 97, 110, 101, 32]⟩ = [32, 119, 97, 110, 101, 32] from rfl, show bts ⟨#[58]⟩ = [58] from rfl, List.append_assoc]
        obtain ⟨accH, haH⟩ : ∃ accH, (l.take k).flatMap prText ++ prHeadA x ++ prHeadB x = accH := ⟨_, rfl⟩
        have lnH : accH.length ≤ 10200 := by rw [← haH, List.length_append, List.length_append, ← HTT.out, ← size_bts]; omega
        rw [haH] at hbq
        have HBQ := Lib.hid hbq
        have HAH := Lib.hid haH
        have c5 := cell_box HN6.out (j := 5) (v := .slice A1 x.lens.length c1) rfl
        clear y0 y1 y2 y3 y4 hw6 hb6 g1 g2 g3 g4 g5 g6 g7 g8 g9 g10 g11 hbq haH s1 s2 s3 s4
        rw [htq]
        clear htq
        go_wp2_with fail
        have hpl := fun j => pairs_len HOK.out j
        have hll := HOK.out.l2
        have hlp := HOK.out.lp
        have HLP := Lib.hid hlp
        have hpl2 : x.lens.length ≤ x.prices.length := by omega
        clear hlp
        go_loopw [3, 6] (fun s i wq => ∃ (j : Nat) (tj : ByteArray), j ≤ x.lens.length ∧ i = .int .i64 j ∧ s = .string tj ∧ bts tj = accH ++ pairsFrom 0 ((x.lens.zip x.prices).take j) ∧ Below w.heap.size w wq ∧ wq.heap[N]? = some (.cells (prCells x (.slice A1 x.lens.length c1) (.slice A2 x.prices.length c2)).toArray 29 (0, 0))) (fun _ i _ => x.lens.length - (intOf i).toNat)
        case atStart => exact ⟨0, tq, by omega, rfl, rfl, by rw [List.take_zero, pairsFrom, List.append_nil]; exact HBQ.out, HB6.out, HN6.out⟩
        case round =>
          obtain ⟨j, tj, hj, rfl, rfl, htj, hb4, hn4⟩ := hrel
          have HTQ := Lib.hid htj
          have HBR := Lib.hid hb4
          have HNR := Lib.hid hn4
          have HNwr := HNR
          have hNR : N < wr.heap.size := (Array.getElem?_eq_some_iff.1 hn4).1
          have hsz4 := hb4.size
          have lnj := hpl j
          have ltj : tj.size ≤ 10600 := by rw [size_bts, htj, List.length_append]; omega
          clear htj hb4 hn4 HB6 HN6 c5
          have c5 := cell_box HNR.out (j := 5) (v := .slice A1 x.lens.length c1) rfl
          by_cases hjl : j < x.lens.length
          · have hnx : x.lens[j]? = some x.lens[j] := List.getElem?_eq_getElem hjl
            obtain ⟨nn, hne⟩ : ∃ nn, x.lens[j] = nn := ⟨_, rfl⟩
            rw [hne] at hnx
            have hpx : x.prices[j]? = some x.prices[j] := List.getElem?_eq_getElem (by omega)
            obtain ⟨pp, hpe⟩ : ∃ pp, x.prices[j] = pp := ⟨_, rfl⟩
            rw [hpe] at hpx
            have HZ := Lib.hid (show (x.lens.zip x.prices)[j]? = some (nn, pp) by rw [List.getElem?_zip_eq_some]; exact ⟨hnx, hpx⟩)
            obtain ⟨bn, on, rfl, hbn, cn⟩ := RdI.at_ (HRI.out.below HBR.out) hnx
            obtain ⟨bp, op, rfl, hbp, cp⟩ := RdI.at_ (HRP.out.below HBR.out) hpx
            obtain ⟨n1, n2⟩ := HOK.out.ln j nn hnx
            obtain ⟨p1, p2⟩ := HOK.out.pr pp (List.mem_of_getElem? hpx)
            obtain ⟨e1, he1⟩ : ∃ e1, str (Lib.itoa nn) = e1 := ⟨_, rfl⟩
            obtain ⟨e2, he2⟩ : ∃ e2, str (Lib.itoa pp) = e2 := ⟨_, rfl⟩
            have E1 : Hid (∀ W, Calls Tryd.prog 44 #[.int .i64 nn] W fun e w' => e = .returned (.string e1) ∧ Below W.heap.size W w') := fun W => by rw [← he1]; exact prNumber_any _ (by omega) (by omega) W
            have E2 : Hid (∀ W, Calls Tryd.prog 44 #[.int .i64 pp] W fun e w' => e = .returned (.string e2) ∧ Below W.heap.size W w') := fun W => by rw [← he2]; exact prNumber_any _ (by omega) (by omega) W
            have z1 : e1.size ≤ 21 := by rw [← he1]; exact sz_itoa nn (by omega) (by omega)
            have z2 : e2.size ≤ 21 := by rw [← he2]; exact sz_itoa pp (by omega) (by omega)
            have HD := Lib.hid (And.intro he1 he2)
            have f1 : (0 : Int) ≤ (j : Int) := by omega
            have f2 : (j : Int) < (x.prices.length : Int) := by omega
            have f3 : (j : Int) < (x.lens.length : Int) := by omega
            clear hnx hpx hne hpe he1 he2
            by_cases h0 : 0 < j
            · have h0i : (0 : Int) < (j : Int) := by omega
              have g0 : ¬ 9223372036854775807 < tj.size + 1 := by omega
              have hsz9 : (tj ++ ⟨#[44]⟩).size = tj.size + 1 := ByteArray.size_append
              go_wp2_with fail
              obtain ⟨tk, htk⟩ : ∃ tk : ByteArray, tj ++ ⟨#[44]⟩ = tk := ⟨_, rfl⟩
              have hbk : bts tk = accH ++ pairsFrom 0 ((x.lens.zip x.prices).take j) ++ [44] := by rw [← htk, bts_append, HTQ.out]; rfl
              rw [htk] at hsz9
              rw [htk]
              clear htk HTQ
              have HTQ := Lib.hid hbk
              clear hbk
              have y5 : ∀ d os, (grow (redrawn wr d) os).cell? ⟨N, 5, none⟩ = some (.slice (some ⟨bn, on, none⟩) x.lens.length c1) := fun d os => cell_regrown (cell_box HNwr.out rfl) d os
              have y6 : ∀ d os, (grow (redrawn wr d) os).cell? ⟨N, 6, none⟩ = some (.slice (some ⟨bp, op, none⟩) x.prices.length c2) := fun d os => cell_regrown (cell_box HNwr.out rfl) d os
              have y7 : ∀ d os, (grow (redrawn wr d) os).cell? ⟨bn, on + j, none⟩ = some (.int .i64 nn) := fun d os => cell_regrown cn d os
              have y8 : ∀ d os, (grow (redrawn wr d) os).cell? ⟨bp, op + j, none⟩ = some (.int .i64 pp) := fun d os => cell_regrown cp d os
              have g1 : ¬ 9223372036854775807 < tk.size + 1 := by omega
              have g2 : ¬ 9223372036854775807 < tk.size + 1 + e1.size := by omega
              have g3 : ¬ 9223372036854775807 < tk.size + 1 + e1.size + 3 := by omega
              have g4 : ¬ 9223372036854775807 < tk.size + 1 + e1.size + 3 + e2.size := by omega
              refine wp_region_quiet_below (by kernel_rfl) (by kernel_rfl) ?_
              repeat (first
                | (open Go.BigFrame in go_big_quiet_step ((first | (with_reducible exact Calls.regrown_of (E1.out _)) | (with_reducible exact Calls.regrown_of (E2.out _)))))
                | (quiet_step ((first | (with_reducible exact Calls.regrown_of (E1.out _)) | (with_reducible exact Calls.regrown_of (E2.out _))))))
              refine wpQuiet_nil ?_
              rintro w6 ⟨p6, hw6⟩
              have hb6 : Below wr.heap.size wr w6 := by rw [hw6]; exact below_regrown _ _ _
              have HB6 := Lib.hid (HBR.out.trans (hb6.mono hsz4))
              have HN6 := Lib.hid ((hb6.block N hNR).trans HNR.out)
              clear y5 y6 y7 y8 hw6 hb6
              go_wp2_with fail
              refine ⟨⟨j + 1, _, by omega, by go_num, rfl, ?_, HB6.out, HN6.out⟩, by simp [intOf]; omega⟩
              rw [pairsFrom_snoc HZ.out, pairText, if_pos h0]
              simp only [bts_append, ← HD.out.1, ← HD.out.2, bts_str, HTQ.out]
              simp only [show bts ⟨#[32]⟩ = [32] from rfl, show bts ⟨#[32, 64, 32]⟩ = [32, 64, 32] from rfl, show bts ⟨#[44]⟩ = [44] from rfl, List.append_assoc, List.nil_append]
            · have h0i : ¬ (0 : Int) < (j : Int) := by omega
              go_wp2_with fail
              have y5 : ∀ d os, (grow (redrawn wr d) os).cell? ⟨N, 5, none⟩ = some (.slice (some ⟨bn, on, none⟩) x.lens.length c1) := fun d os => cell_regrown (cell_box HNwr.out rfl) d os
              have y6 : ∀ d os, (grow (redrawn wr d) os).cell? ⟨N, 6, none⟩ = some (.slice (some ⟨bp, op, none⟩) x.prices.length c2) := fun d os => cell_regrown (cell_box HNwr.out rfl) d os
              have y7 : ∀ d os, (grow (redrawn wr d) os).cell? ⟨bn, on + j, none⟩ = some (.int .i64 nn) := fun d os => cell_regrown cn d os
              have y8 : ∀ d os, (grow (redrawn wr d) os).cell? ⟨bp, op + j, none⟩ = some (.int .i64 pp) := fun d os => cell_regrown cp d os
              have g1 : ¬ 9223372036854775807 < tj.size + 1 := by omega
              have g2 : ¬ 9223372036854775807 < tj.size + 1 + e1.size := by omega
              have g3 : ¬ 9223372036854775807 < tj.size + 1 + e1.size + 3 := by omega
              have g4 : ¬ 9223372036854775807 < tj.size + 1 + e1.size + 3 + e2.size := by omega
              refine wp_region_quiet_below (by kernel_rfl) (by kernel_rfl) ?_
              repeat (first
                | (open Go.BigFrame in go_big_quiet_step ((first | (with_reducible exact Calls.regrown_of (E1.out _)) | (with_reducible exact Calls.regrown_of (E2.out _)))))
                | (quiet_step ((first | (with_reducible exact Calls.regrown_of (E1.out _)) | (with_reducible exact Calls.regrown_of (E2.out _))))))
              refine wpQuiet_nil ?_
              rintro w6 ⟨p6, hw6⟩
              have hb6 : Below wr.heap.size wr w6 := by rw [hw6]; exact below_regrown _ _ _
              have HB6 := Lib.hid (HBR.out.trans (hb6.mono hsz4))
              have HN6 := Lib.hid ((hb6.block N hNR).trans HNR.out)
              clear y5 y6 y7 y8 hw6 hb6
              go_wp2_with fail
              refine ⟨⟨j + 1, _, by omega, by go_num, rfl, ?_, HB6.out, HN6.out⟩, by simp [intOf]; omega⟩
              rw [pairsFrom_snoc HZ.out, pairText, if_neg h0]
              simp only [bts_append, ← HD.out.1, ← HD.out.2, bts_str, HTQ.out]
              simp only [show bts ⟨#[32]⟩ = [32] from rfl, show bts ⟨#[32, 64, 32]⟩ = [32, 64, 32] from rfl, show bts ⟨#[44]⟩ = [44] from rfl, List.append_assoc, List.nil_append]
          · have hje : j = x.lens.length := by omega
            have g0 : ¬ 9223372036854775807 < tj.size + 2 := by omega
            have HFIN := Lib.hid (show bts tj = accH ++ pairsFrom 0 (x.lens.zip x.prices) by have h9 := HTQ.out; rw [hje, List.take_of_length_le (by rw [zip_length HOK.out]; exact Nat.le_refl _)] at h9; exact h9)
            clear hje
            go_wp2_with fail
            refine ⟨⟨k + 1, _, by omega, by go_num, rfl, ?_, HBR.out⟩, by simp [intOf]; omega⟩
            rw [bts_append, HFIN.out, ← HAH.out, List.take_add_one, HX.out, List.flatMap_append]
            simp only [Option.toList_some, List.flatMap_cons, List.flatMap_nil, List.append_nil, prText, show bts ⟨#[59, 10]⟩ = [59, 10] from rfl, List.append_assoc]
      · have hke : k = l.length := by omega
        have hre : tt = str r := by rw [← str_bts tt, HTT.out, hke, List.take_length, HRF.out]
        subst hre
        clear hke
        go_wp2_with fail
        go_ret
        exact ⟨rfl, HB.out⟩
  · have hqb : (q != 0) = true := by rw [bne_iff_ne]; exact hq0
    have hre : r = [] := by rw [← HR.out, formatPr, if_neg (by rw [hq]; exact hq0)]
    subst hre
    clear hq hq0
    go_wp2_with fail
    go_ret
    exact ⟨rfl, HB1.out⟩

end Go.Proofs.YtokgonpeolppnaaDoor
