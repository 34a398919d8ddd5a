/-
  The contract of product.Format.
-/
import Derived.Test.YtokgonpeolppnaaDoorPrD
import Derived.Test.YtokgonpeolppnaaDoorPrM
import Derived.Test.YtokgonpeolppnaaDoorPrQ
import Derived.Test.YtokgonpeolppnaaDoorSbK
import Derived.Test.YtokgonpeolppnaaDoorCat
import Derived.Deep.RegionHeld3
namespace Go.Proofs.YtokgonpeolppnaaDoor
open Go.RowKit Saw

def StrPost (l : List UInt8) (w : World) (e : Ending) (w' : World) : Prop := e = .returned (.string (str l)) ∧ Below w.heap.size w w'
theorem below_undrew {w w' : World} (h : Below w.drew.heap.size w.drew w') : Below w.heap.size w w' := ⟨h.os, h.tape, h.output, h.size, h.block⟩
theorem sz_itoa (n : Int) (h0 : -9223372036854775808 ≤ n) (h1 : n ≤ 9223372036854775807) : (str (Lib.itoa n)).size ≤ 21 := by rw [size_str]; exact Lib.itoa_length_le n h0 h1
theorem bts_headA (x : Pr) : bts ((⟨#[112, 114, 111, 100, 117, 99, 116, 32]⟩ : ByteArray) ++ str x.name ++ ⟨#[32]⟩ ++ str (Lib.itoa x.thick) ++ ⟨#[32, 120, 32]⟩ ++ str (Lib.itoa x.width)) = prHeadA x := by
  rw [bts_append, bts_append, bts_append, bts_append, bts_append, bts_str, bts_str, bts_str]; rfl
theorem bts_headB (x : Pr) : bts ((⟨#[32, 97, 108, 108, 111, 119, 32]⟩ : ByteArray) ++ str (Lib.itoa x.allow) ++ ⟨#[32, 119, 97, 110, 101, 32]⟩ ++ str (Lib.itoa x.wane) ++ ⟨#[58]⟩) = prHeadB x := by
  rw [bts_append, bts_append, bts_append, bts_append, bts_str, bts_str]; rfl
theorem bts_pair (n p : Int) : bts ((⟨#[32]⟩ : ByteArray) ++ str (Lib.itoa n) ++ ⟨#[32, 64, 32]⟩ ++ str (Lib.itoa p)) = [32] ++ Lib.itoa n ++ [32, 64, 32] ++ Lib.itoa p := by
  rw [bts_append, bts_append, bts_append, bts_str, bts_str]; rfl
theorem cell_box {w : World} {N j : Nat} {cs : Array Value} {t : TypeId} {v : Value} (h : w.heap[N]? = some (.cells cs t (0, 0))) (hv : cs[j]? = some v) : w.cell? ⟨N, j, none⟩ = some v := by
  rw [cell_of_row w N j cs t (0, 0) h]; exact hv
theorem box_other {w w' : World} {N b : Nat} {cs : Array Value} (h : w.heap[N]? = some (.cells cs 29 (0, 0))) (ho : OtherB b w w') (hne : b ≠ N) : w'.heap[N]? = some (.cells cs 29 (0, 0)) :=
  ho N _ h (fun e => hne (by injection e with e; exact e.symm)) (fun c fz e => by injection e with e1 e2; exact absurd e2 (by decide))
theorem rdPr_rng {w : World} {B : Nat} {A : Option Addr} {n c : Nat} {l : List Pr} (h : RdPr w B (.slice A n c) l) {i : Nat} {x : Pr} (hx : l[i]? = some x) :
    ∃ b off A1 c1 A2 c2, A = some ⟨b, off, none⟩ ∧ b < B ∧ x.lens.length ≤ maxLen ∧ x.prices.length ≤ maxLen ∧ RdI w B (.slice A1 x.lens.length c1) x.lens ∧ RdI w B (.slice A2 x.prices.length c2) x.prices ∧
      w.rangeAt b (off + i * 7) (prCells x (.slice A1 x.lens.length c1) (.slice A2 x.prices.length c2)) := by
  obtain ⟨b, off, A1, c1, A2, c2, h1, h2, h3, h4, h5, h6, d0, d1, d2, d3, d4, d5, d6⟩ := RdPr.at_ h hx
  refine ⟨b, off, A1, c1, A2, c2, h1, h2, h3, h4, h5, h6, ?_⟩
  intro j v hv
  match j, hv with
  | 0, hv => injection hv with hv; subst hv; exact d0
  | 1, hv => injection hv with hv; subst hv; exact d1
  | 2, hv => injection hv with hv; subst hv; exact d2
  | 3, hv => injection hv with hv; subst hv; exact d3
  | 4, hv => injection hv with hv; subst hv; exact d4
  | 5, hv => injection hv with hv; subst hv; exact d5
  | 6, hv => injection hv with hv; subst hv; exact d6

set_option maxRecDepth 100000 in
set_option maxHeartbeats 1000000 in
theorem prFormat_any (l : List Pr) (v : Value) (w : World) (hrd : RdPr w w.heap.size v l) (hnm : ∀ x ∈ l, x.name.length ≤ 1000000) (hpw : Pow w) (hpg : 0 < w.heap.size) :
    Calls Tryd.prog 24 #[v] w (StrPost (formatPr l) w) := by
  obtain ⟨A, c, rfl, hc, hml⟩ := hrd.form
  obtain ⟨r, hr⟩ : ∃ r, formatPr l = r := ⟨_, rfl⟩
  rw [hr]
  unfold maxLen at hml
  have HR := Lib.hid hr
  have HRD := Lib.hid hrd
  have HNM := Lib.hid hnm
  have HPW := Lib.hid hpw
  clear hr hrd hnm hpw
  go_enter Tryd.func24, Tryd.ntmps24
  go_wp2_with fail
  refine (prCheck_any l _ _ HRD.out HNM.out).mono ?_
  rintro e w1 ⟨he, hb1⟩
  obtain ⟨q, hq⟩ : ∃ q, checkPr l = q := ⟨_, rfl⟩
  rw [hq] at he
  subst he
  have HB1 := Lib.hid hb1
  have hsz1 := hb1.size
  clear hb1
  by_cases hq0 : q = 0
  · subst hq0
    obtain ⟨hl8, hall⟩ := checkPr_ok hq
    have hrf : l.flatMap prText = r := by rw [← HR.out, formatPr, if_pos hq]
    have HRF := Lib.hid hrf
    have HALL := Lib.hid hall
    clear hq hall hrf HR
    go_wp2_with fail
    go_loopw [13] (fun i wr => ∃ k : Nat, k ≤ l.length ∧ i = .int .i64 k ∧ IsSb wr w.heap.size w1.heap.size ((l.take k).flatMap prText) ∧ Below w.heap.size w wr) (fun i _ => l.length - (intOf i).toNat)
    case atStart => exact ⟨0, by omega, rfl, sb_new w1 _ hsz1, HB1.out.alloc hsz1 _⟩
    case round =>
      obtain ⟨k, hk, rfl, hsb, hb⟩ := hrel
      have hlb := hsb.lt.1
      have HSB := Lib.hid hsb
      have HB := Lib.hid hb
      have hszr := hb.size
      clear hsb hb
      by_cases hlt : k < l.length
      · have hx : l[k]? = some l[k] := List.getElem?_eq_getElem hlt
        obtain ⟨x, hxe⟩ : ∃ x, l[k] = x := ⟨_, rfl⟩
        rw [hxe] at hx
        obtain ⟨hxn, _, hxc⟩ := HALL.out k x hx
        have hok := prOk_of hxc
        obtain ⟨b, off, A1, c1, A2, c2, rfl, hbl, hm1, hm2, hri, hrp, hrg⟩ := rdPr_rng HRD.out hx
        have HRG := Lib.hid (rangeAt_below HB.out hbl hrg)
        have hnl := isNameP_len hxn
        have HX := Lib.hid hx
        have hsn : (str x.name).size ≤ 16 := by rw [size_str]; omega
        have HOK := Lib.hid hok
        have HXN := Lib.hid hxn
        have HRI := Lib.hid hri
        have HRP := Lib.hid hrp
        obtain ⟨acc, hacc⟩ : ∃ acc, (l.take k).flatMap prText = acc := ⟨_, rfl⟩
        have hal : acc.length ≤ k * 504 := by rw [← hacc]; exact prTexts_len (fun i x hx => HALL.out i x hx) k hk
        have HACC := Lib.hid hacc
        have HSB1 := Lib.hid (show IsSb wr w.heap.size w1.heap.size acc by rw [← hacc]; exact HSB.out)
        unfold maxLen at hm1 hm2
        have t1 := hok.t1; have t2 := hok.t2; have t3 := hok.w1; have t4 := hok.w2; have t5 := hok.a1; have t6 := hok.a2; have t7 := hok.n1; have t8 := hok.n2
        clear hx hxn hxe hxc hrg hok hri hrp hacc HSB
        go_wp2_with (first
          | ((with_reducible refine pr_load b (off + k * 7) x (.slice A1 x.lens.length c1) (.slice A2 x.prices.length c2) ?hx HRG.out ?_); (case hx => rfl))
          | ((with_reducible refine pr_alloc ?_); intro c5 H5)
          | ((with_reducible refine pr_new x (.slice A1 x.lens.length c1) (.slice A2 x.prices.length c2) wr.heap.size rfl rfl ?hx rfl ?hy H5 ?_); (case hx => rfl); (case hy => rfl)))
        obtain ⟨N, hN⟩ : ∃ N, wr.heap.size = N := ⟨_, rfl⟩
        obtain ⟨V, hV⟩ : ∃ V, wr.alloc (.cells (prCells x (.slice A1 x.lens.length c1) (.slice A2 x.prices.length c2)).toArray 29) = V := ⟨_, rfl⟩
        have HNV := Lib.hid (show V.heap[N]? = some (.cells (prCells x (.slice A1 x.lens.length c1) (.slice A2 x.prices.length c2)).toArray 29 (0, 0)) by rw [← hV, ← hN]; exact heap_alloc_last wr _)
        have hNV : N < V.heap.size := by rw [← hV, World.size_alloc]; omega
        have HBV := Lib.hid (show Below w.heap.size w V by rw [← hV]; exact HB.out.alloc hszr _)
        have HSBV := Lib.hid (show IsSb V w.heap.size w1.heap.size acc by rw [← hV]; exact HSB1.out.below ((Below.refl _ _).alloc (Nat.le_refl _) _))
        have hbN : w1.heap.size ≠ N := by omega
        have lnV : acc.length ≤ 10000 := by omega
        have hhl := prHead_len HXN.out HOK.out
        rw [hV, hN]
        clear hV HB HRG HSB1
        have HI1 : Hid (∀ W, Below w.heap.size w W → Calls Tryd.prog 42 #[.int .i64 x.thick] W fun e w' => e = .returned (.string (str (Lib.itoa x.thick))) ∧ Below W.heap.size W w') := fun W hW => itoa_any x.thick W (by omega) (by omega) (HPW.out.below hW hpg)
        have HI2 : Hid (∀ W, Below w.heap.size w W → Calls Tryd.prog 42 #[.int .i64 x.width] W fun e w' => e = .returned (.string (str (Lib.itoa x.width))) ∧ Below W.heap.size W w') := fun W hW => itoa_any x.width W (by omega) (by omega) (HPW.out.below hW hpg)
        have s1 := sz_itoa x.thick (by omega) (by omega)
        have s2 := sz_itoa x.width (by omega) (by omega)
        have HSA : Hid (∀ W : World, W.heap[N]? = some (.cells (prCells x (.slice A1 x.lens.length c1) (.slice A2 x.prices.length c2)).toArray 29 (0, 0)) → W.cell? ⟨N, 0, none⟩ = some (.string (str x.name)) ∧ W.cell? ⟨N, 1, none⟩ = some (.int .i64 x.thick) ∧ W.cell? ⟨N, 2, none⟩ = some (.int .i64 x.width)) := fun W hW => ⟨cell_box hW rfl, cell_box hW rfl, cell_box hW rfl⟩
        have q1 : ¬ 9223372036854775807 < 8 + (str x.name).size := by omega
        have q2 : ¬ 9223372036854775807 < 8 + (str x.name).size + 1 := by omega
        have q3 : ¬ 9223372036854775807 < 8 + (str x.name).size + 1 + (str (Lib.itoa x.thick)).size := by omega
        have q4 : ¬ 9223372036854775807 < 8 + (str x.name).size + 1 + (str (Lib.itoa x.thick)).size + 3 := by omega
        have q5 : ¬ 9223372036854775807 < 8 + (str x.name).size + 1 + (str (Lib.itoa x.thick)).size + 3 + (str (Lib.itoa x.width)).size := by omega
        have hHBV := HBV.out.size
        skip
        go_region_held3 (fun W => W.cell? ⟨N, 0, none⟩ = some (.string (str x.name)) ∧ W.cell? ⟨N, 1, none⟩ = some (.int .i64 x.thick) ∧ W.cell? ⟨N, 2, none⟩ = some (.int .i64 x.width))
          (first | exact HSA.out _ HNV.out | exact HSA.out _ hk5 | exact HSA.out _ hk6 | exact HSA.out _ hk7)
          (first
            | (go_at_call 42; refine (HI1.out _ HBV.out.drew).mono ?_; rintro e w5 ⟨rfl, hb5'⟩; have hb5 := below_undrew hb5'; have hk5 := (hb5.block N hNV).trans HNV.out; have hw5 := HBV.out.trans (hb5.mono hHBV))
            | (go_at_call 42; refine (HI2.out _ hw5).mono ?_; rintro e w6 ⟨rfl, hb6⟩; have hk6 := (hb6.block N (Nat.lt_of_lt_of_le hNV hb5.size)).trans hk5; have hw6 := hw5.trans (hb6.mono hw5.size))
            | (go_at_call 41; refine (sb_write w.heap.size w1.heap.size acc _ _ ((HSBV.out.below hb5).below hb6) (by rw [size_bts, bts_headA]; omega) hw6.size).mono ?_; rintro e w7 ⟨rfl, hsb7, hb7, hot7⟩; have hk7 := box_other hk6 hot7 hbN))
        have HSBP := Lib.hid (show IsSb w7 w.heap.size w1.heap.size (acc ++ prHeadA x) by have h9 := hsb7; rw [bts_headA] at h9; exact h9)
        have HNP := Lib.hid hk7
        have hNP : N < w7.heap.size := (Array.getElem?_eq_some_iff.1 hk7).1
        have HBP := Lib.hid (hw6.trans hb7)
        clear hsb7 hk7 hk6 hk5 hb5 hb5' hb6 hb7 hot7 hw5 hw6 HI1 HI2 s1 s2 HSA q1 q2 q3 q4 q5
        clear HNV HBV HSBV hHBV
        have lnP : (acc ++ prHeadA x).length ≤ 10100 := by rw [List.length_append]; omega
        rename_i hheld
        clear hheld
        go_wp2_with fail
        have HI1 : Hid (∀ W, Below w.heap.size w W → Calls Tryd.prog 42 #[.int .i64 x.allow] W fun e w' => e = .returned (.string (str (Lib.itoa x.allow))) ∧ Below W.heap.size W w') := fun W hW => itoa_any x.allow W (by omega) (by omega) (HPW.out.below hW hpg)
        have HI2 : Hid (∀ W, Below w.heap.size w W → Calls Tryd.prog 42 #[.int .i64 x.wane] W fun e w' => e = .returned (.string (str (Lib.itoa x.wane))) ∧ Below W.heap.size W w') := fun W hW => itoa_any x.wane W (by omega) (by omega) (HPW.out.below hW hpg)
        have s1 := sz_itoa x.allow (by omega) (by omega)
        have s2 := sz_itoa x.wane (by omega) (by omega)
        have HSC : Hid (∀ W : World, W.heap[N]? = some (.cells (prCells x (.slice A1 x.lens.length c1) (.slice A2 x.prices.length c2)).toArray 29 (0, 0)) → W.cell? ⟨N, 3, none⟩ = some (.int .i64 x.allow) ∧ W.cell? ⟨N, 4, none⟩ = some (.int .i64 x.wane)) := fun W hW => ⟨cell_box hW rfl, cell_box hW rfl⟩
        have q1 : ¬ 9223372036854775807 < 7 + (str (Lib.itoa x.allow)).size := by omega
        have q2 : ¬ 9223372036854775807 < 7 + (str (Lib.itoa x.allow)).size + 6 := by omega
        have q3 : ¬ 9223372036854775807 < 7 + (str (Lib.itoa x.allow)).size + 6 + (str (Lib.itoa x.wane)).size := by omega
        have q4 : ¬ 9223372036854775807 < 7 + (str (Lib.itoa x.allow)).size + 6 + (str (Lib.itoa x.wane)).size + 1 := by omega
        have hHBP := HBP.out.size
        skip
        go_region_held3 (fun W => W.cell? ⟨N, 3, none⟩ = some (.int .i64 x.allow) ∧ W.cell? ⟨N, 4, none⟩ = some (.int .i64 x.wane))
          (first | exact HSC.out _ HNP.out | exact HSC.out _ hk5 | exact HSC.out _ hk6 | exact HSC.out _ hk7)
          (first
            | (go_at_call 42; refine (HI1.out _ HBP.out.drew).mono ?_; rintro e w5 ⟨rfl, hb5'⟩; have hb5 := below_undrew hb5'; have hk5 := (hb5.block N hNP).trans HNP.out; have hw5 := HBP.out.trans (hb5.mono hHBP))
            | (go_at_call 42; refine (HI2.out _ hw5).mono ?_; rintro e w6 ⟨rfl, hb6⟩; have hk6 := (hb6.block N (Nat.lt_of_lt_of_le hNP hb5.size)).trans hk5; have hw6 := hw5.trans (hb6.mono hw5.size))
            | (go_at_call 41; refine (sb_write w.heap.size w1.heap.size (acc ++ prHeadA x) _ _ ((HSBP.out.below hb5).below hb6) (by rw [size_bts, bts_headB]; omega) hw6.size).mono ?_; rintro e w7 ⟨rfl, hsb7, hb7, hot7⟩; have hk7 := box_other hk6 hot7 hbN))
        have HSBQ := Lib.hid (show IsSb w7 w.heap.size w1.heap.size (acc ++ prHeadA x ++ prHeadB x) by have h9 := hsb7; rw [bts_headB] at h9; exact h9)
        have HNQ := Lib.hid hk7
        have hNQ : N < w7.heap.size := (Array.getElem?_eq_some_iff.1 hk7).1
        have HBQ := Lib.hid (hw6.trans hb7)
        clear hsb7 hk7 hk6 hk5 hb5 hb5' hb6 hb7 hot7 hw5 hw6 HI1 HI2 s1 s2 HSC q1 q2 q3 q4
        clear HNP HBP HSBP hHBP
        rename_i hheld
        clear hheld
        have c5 := cell_box HNQ.out (j := 5) (v := .slice A1 x.lens.length c1) rfl
        go_wp2_with fail
        have hpl := fun j => pairs_len HOK.out j
        obtain ⟨accH, haccH⟩ : ∃ accH, acc ++ prHeadA x ++ prHeadB x = accH := ⟨_, rfl⟩
        have lnH : accH.length ≤ 10200 := by rw [← haccH, List.length_append, List.length_append]; rw [List.length_append] at lnP; omega
        rw [haccH] at HSBQ
        have HACH := Lib.hid haccH
        have hll := HOK.out.l2
        have hlp := HOK.out.lp
        have HLP := Lib.hid hlp
        have hpl2 : x.lens.length ≤ x.prices.length := by omega
        clear haccH hlp
        go_loopw [45] (fun i wq => ∃ j : Nat, j ≤ x.lens.length ∧ i = .int .i64 j ∧ IsSb wq w.heap.size w1.heap.size (accH ++ pairsFrom 0 ((x.lens.zip x.prices).take j)) ∧ Below w.heap.size w wq ∧ wq.heap[N]? = some (.cells (prCells x (.slice A1 x.lens.length c1) (.slice A2 x.prices.length c2)).toArray 29 (0, 0))) (fun i _ => x.lens.length - (intOf i).toNat)
        case atStart => exact ⟨0, by omega, rfl, by rw [List.take_zero, pairsFrom, List.append_nil]; exact HSBQ.out, HBQ.out, HNQ.out⟩
        case round =>
          obtain ⟨j, hj, rfl, hsb4, hb4, hn4⟩ := hrel
          have HSBR := Lib.hid hsb4
          have HBR := Lib.hid hb4
          have HNR := Lib.hid hn4
          have hNR : N < wr.heap.size := (Array.getElem?_eq_some_iff.1 hn4).1
          have hsz4 := hb4.size
          have lnj := hpl j
          clear hsb4 hb4 hn4 HSBQ HBQ HNQ c5
          by_cases hjl : j < x.lens.length
          · have hnx : x.lens[j]? = some x.lens[j] := List.getElem?_eq_getElem hjl
            obtain ⟨nn, hne⟩ : ∃ nn, x.lens[j] = nn := ⟨_, rfl⟩
            rw [hne] at hnx
            have hpx : x.prices[j]? = some x.prices[j] := List.getElem?_eq_getElem (by omega)
            obtain ⟨pp, hpe⟩ : ∃ pp, x.prices[j] = pp := ⟨_, rfl⟩
            rw [hpe] at hpx
            have HZ := Lib.hid (show (x.lens.zip x.prices)[j]? = some (nn, pp) by rw [List.getElem?_zip_eq_some]; exact ⟨hnx, hpx⟩)
            obtain ⟨bn, on, rfl, hbn, cn⟩ := RdI.at_ (HRI.out.below HBR.out) hnx
            obtain ⟨bp, op, rfl, hbp, _⟩ := RdI.at_ (HRP.out.below HBR.out) hpx
            obtain ⟨n1, n2⟩ := HOK.out.ln j nn hnx
            obtain ⟨p1, p2⟩ := HOK.out.pr pp (List.mem_of_getElem? hpx)
            have HSD : Hid (∀ W : World, W.heap[N]? = some (.cells (prCells x (.slice (some ⟨bn, on, none⟩) x.lens.length c1) (.slice (some ⟨bp, op, none⟩) x.prices.length c2)).toArray 29 (0, 0)) → Below w.heap.size w W → W.cell? ⟨N, 6, none⟩ = some (.slice (some ⟨bp, op, none⟩) x.prices.length c2) ∧ W.cell? ⟨bp, op + j, none⟩ = some (.int .i64 pp)) := fun W hW hbW => ⟨cell_box hW rfl, by
              obtain ⟨b', o', he, _, hcc⟩ := RdI.at_ (HRP.out.below hbW) hpx
              injection he with he
              injection he with e1 e2
              subst e1 e2
              exact hcc⟩
            have HI1 : Hid (∀ W, Below w.heap.size w W → Calls Tryd.prog 42 #[.int .i64 nn] W fun e w' => e = .returned (.string (str (Lib.itoa nn))) ∧ Below W.heap.size W w') := fun W hW => itoa_any nn W (by omega) (by omega) (HPW.out.below hW hpg)
            have HI2 : Hid (∀ W, Below w.heap.size w W → Calls Tryd.prog 42 #[.int .i64 pp] W fun e w' => e = .returned (.string (str (Lib.itoa pp))) ∧ Below W.heap.size W w') := fun W hW => itoa_any pp W (by omega) (by omega) (HPW.out.below hW hpg)
            have s1 := sz_itoa nn (by omega) (by omega)
            have s2 := sz_itoa pp (by omega) (by omega)
            have z1 : (Lib.itoa nn).length ≤ 21 := by rw [size_str] at s1; exact s1
            have z2 : (Lib.itoa pp).length ≤ 21 := by rw [size_str] at s2; exact s2
            have q1 : ¬ 9223372036854775807 < 1 + (str (Lib.itoa nn)).size := by omega
            have q2 : ¬ 9223372036854775807 < 1 + (str (Lib.itoa nn)).size + 3 := by omega
            have q3 : ¬ 9223372036854775807 < 1 + (str (Lib.itoa nn)).size + 3 + (str (Lib.itoa pp)).size := by omega
            have f1 : (0 : Int) ≤ (j : Int) := by omega
            have f2 : (j : Int) < (x.prices.length : Int) := by omega
            clear hnx hpx hne hpe
            by_cases h0 : 0 < j
            · have h0i : (0 : Int) < (j : Int) := by omega
              go_wp2_with fail
              refine (sb_write w.heap.size w1.heap.size _ _ _ HSBR.out (by have : (⟨#[44]⟩ : ByteArray).size = 1 := rfl; rw [List.length_append]; omega) hsz4).mono ?_
              rintro e w4 ⟨rfl, hsb4, hb4, hot4⟩
              have HSB4 := Lib.hid (show IsSb w4 w.heap.size w1.heap.size (accH ++ pairsFrom 0 ((x.lens.zip x.prices).take j) ++ [44]) from hsb4)
              have HN4 := Lib.hid (box_other HNR.out hot4 hbN)
              have hN4 : N < w4.heap.size := (Array.getElem?_eq_some_iff.1 HN4.out).1
              have HB4 := Lib.hid (HBR.out.trans hb4)
              clear hsb4 hb4 hot4
              go_wp2_with fail
              have hHB := HB4.out.size
              go_region_held3 (fun W => W.cell? ⟨N, 6, none⟩ = some (.slice (some ⟨bp, op, none⟩) x.prices.length c2) ∧ W.cell? ⟨bp, op + j, none⟩ = some (.int .i64 pp))
                (first | exact HSD.out _ HN4.out HB4.out.drew | exact HSD.out _ hk5 hw5 | exact HSD.out _ hk6 hw6 | exact HSD.out _ hk7 hw7)
                (first
                  | (go_at_call 42; refine (HI1.out _ HB4.out.drew).mono ?_; rintro e w5 ⟨rfl, hb5'⟩; have hb5 := below_undrew hb5'; have hk5 := (hb5.block N hN4).trans HN4.out; have hw5 := HB4.out.trans (hb5.mono hHB))
                  | (go_at_call 42; refine (HI2.out _ hw5).mono ?_; rintro e w6 ⟨rfl, hb6⟩; have hk6 := (hb6.block N (Nat.lt_of_lt_of_le hN4 hb5.size)).trans hk5; have hw6 := hw5.trans (hb6.mono hw5.size))
                  | (go_at_call 41; refine (sb_write w.heap.size w1.heap.size (accH ++ pairsFrom 0 ((x.lens.zip x.prices).take j) ++ [44]) _ _ ((HSB4.out.below hb5).below hb6) (by rw [size_bts, bts_pair]; simp only [List.length_append, List.length_cons, List.length_nil]; omega) hw6.size).mono ?_; rintro e w7 ⟨rfl, hsb7, hb7, hot7⟩; have hk7 := box_other hk6 hot7 hbN; have hw7 := hw6.trans hb7))
              have HSB7 := Lib.hid (show IsSb w7 w.heap.size w1.heap.size (accH ++ pairsFrom 0 ((x.lens.zip x.prices).take (j + 1))) by rw [pairsFrom_snoc HZ.out, pairText]; have h9 := hsb7; rw [bts_pair] at h9; rw [if_pos h0]; simpa [List.append_assoc] using h9)
              have HN7 := Lib.hid hk7
              have HB7 := Lib.hid hw7
              rename_i hheld
              clear hheld hsb7 hk7 hk6 hk5 hb5 hb5' hb6 hb7 hot7 hw5 hw6 hw7
              go_wp2_with fail
              exact ⟨⟨j + 1, by omega, by go_num, HSB7.out, HB7.out, HN7.out⟩, by simp [intOf]; omega⟩
            · have h0i : ¬ (0 : Int) < (j : Int) := by omega
              go_wp2_with fail
              have hHB := HBR.out.size
              go_region_held3 (fun W => W.cell? ⟨N, 6, none⟩ = some (.slice (some ⟨bp, op, none⟩) x.prices.length c2) ∧ W.cell? ⟨bp, op + j, none⟩ = some (.int .i64 pp))
                (first | exact HSD.out _ HNR.out HBR.out.drew | exact HSD.out _ hk5 hw5 | exact HSD.out _ hk6 hw6 | exact HSD.out _ hk7 hw7)
                (first
                  | (go_at_call 42; refine (HI1.out _ HBR.out.drew).mono ?_; rintro e w5 ⟨rfl, hb5'⟩; have hb5 := below_undrew hb5'; have hk5 := (hb5.block N hNR).trans HNR.out; have hw5 := HBR.out.trans (hb5.mono hHB))
                  | (go_at_call 42; refine (HI2.out _ hw5).mono ?_; rintro e w6 ⟨rfl, hb6⟩; have hk6 := (hb6.block N (Nat.lt_of_lt_of_le hNR hb5.size)).trans hk5; have hw6 := hw5.trans (hb6.mono hw5.size))
                  | (go_at_call 41; refine (sb_write w.heap.size w1.heap.size (accH ++ pairsFrom 0 ((x.lens.zip x.prices).take j)) _ _ ((HSBR.out.below hb5).below hb6) (by rw [size_bts, bts_pair]; simp only [List.length_append, List.length_cons, List.length_nil]; omega) hw6.size).mono ?_; rintro e w7 ⟨rfl, hsb7, hb7, hot7⟩; have hk7 := box_other hk6 hot7 hbN; have hw7 := hw6.trans hb7))
              have HSB7 := Lib.hid (show IsSb w7 w.heap.size w1.heap.size (accH ++ pairsFrom 0 ((x.lens.zip x.prices).take (j + 1))) by rw [pairsFrom_snoc HZ.out, pairText]; have h9 := hsb7; rw [bts_pair] at h9; rw [if_neg h0]; simpa [List.append_assoc] using h9)
              have HN7 := Lib.hid hk7
              have HB7 := Lib.hid hw7
              rename_i hheld
              clear hheld hsb7 hk7 hk6 hk5 hb5 hb5' hb6 hb7 hot7 hw5 hw6 hw7
              go_wp2_with fail
              exact ⟨⟨j + 1, by omega, by go_num, HSB7.out, HB7.out, HN7.out⟩, by simp [intOf]; omega⟩
          · obtain hje : j = x.lens.length := by omega
            have HSBE := Lib.hid (show IsSb wr w.heap.size w1.heap.size (accH ++ pairsFrom 0 (x.lens.zip x.prices)) by have h9 := HSBR.out; rw [hje, List.take_of_length_le (by rw [zip_length HOK.out]; exact Nat.le_refl _)] at h9; exact h9)
            have lnE : (accH ++ pairsFrom 0 (x.lens.zip x.prices)).length ≤ 10600 := by rw [hje, List.take_of_length_le (by rw [zip_length HOK.out]; exact Nat.le_refl _)] at lnj; rw [List.length_append]; omega
            subst hje
            go_wp2_with fail
            refine (sb_write w.heap.size w1.heap.size _ _ _ HSBE.out (by have h2 : (⟨#[59, 10]⟩ : ByteArray).size = 2 := rfl; omega) hsz4).mono ?_
            rintro e w8 ⟨rfl, hsb8, hb8, _⟩
            have HSB8 := Lib.hid hsb8
            have HB8 := Lib.hid (HBR.out.trans hb8)
            clear hsb8 hb8
            go_wp2_with fail
            refine ⟨⟨k + 1, by omega, by go_num, ?_, HB8.out⟩, by simp [intOf]; omega⟩
            have h9 := HSB8.out
            rw [List.take_add_one, HX.out, List.flatMap_append, HACC.out]
            rw [← HACH.out, show bts ⟨#[59, 10]⟩ = [59, 10] from rfl] at h9
            simpa [prText] using h9
      · have hke : k = l.length := by omega
        have HSBE := Lib.hid (show IsSb wr w.heap.size w1.heap.size r by have := HSB.out; rw [hke, List.take_length, HRF.out] at this; exact this)
        clear hke
        go_wp2_with fail
        refine (sb_string w.heap.size w1.heap.size r _ HSBE.out hszr).mono ?_
        rintro e w7 ⟨rfl, hb7⟩
        have HB7 := Lib.hid (HB.out.trans hb7)
        clear hb7
        go_wp2_with fail
        go_ret
        exact ⟨rfl, HB7.out⟩
  · have hqb : (q != 0) = true := by rw [bne_iff_ne]; exact hq0
    have hre : r = [] := by rw [← HR.out, formatPr, if_neg (by rw [hq]; exact hq0)]
    subst hre
    clear hq hq0
    go_wp2_with fail
    go_ret
    exact ⟨rfl, HB1.out⟩

end Go.Proofs.YtokgonpeolppnaaDoor
