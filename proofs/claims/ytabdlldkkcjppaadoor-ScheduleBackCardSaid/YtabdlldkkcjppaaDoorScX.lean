/-
  The contract of sawmillref37.Parse.
  The contract of sawmillref37.Format.
-/
import Derived.Test.YtabdlldkkcjppaaDoorScN
import Derived.Test.YtabdlldkkcjppaaDoorScS
import Derived.Test.YtabdlldkkcjppaaDoorScJ
import Derived.Test.YtabdlldkkcjppaaDoorRefC
import Derived.Test.YtabdlldkkcjppaaDoorScH
import Derived.Test.YtabdlldkkcjppaaDoorQuiet
import Derived.Deep.Cut
import Derived.BigQuiet
namespace Go.Proofs.YtabdlldkkcjppaaDoor
open Go.RowKit Saw

def RSchRel (w0 : World) (rb : Nat) (lv : Value) (xs : List Lx) (R : List Sc × Int × Int) (vl : Value) (wr : World) : Prop :=
  ∃ (j : Nat) (l : List Sc) (m : List (Sc × Value)), j < xs.length ∧ l.length ≤ j ∧ IsR7 wr rb lv (j, false) ∧ ScMem wr (rb + 1) vl l m ∧ w0.grownBy wr (some rb) ∧ validP l = true ∧ ∃ n, xs.length - j ≤ n ∧ scsAll xs n j l = R
def rschLeft (xs : List Lx) (rb : Nat) (w : World) : Nat := match w.cell? ⟨rb, 1, none⟩ with | some (.int _ n) => xs.length - n.toNat | _ => 0
theorem rschLeft_of {xs : List Lx} {w : World} {rb : Nat} {s : Nat × Bool} {lv : Value} (h : IsR7 w rb lv s) : rschLeft xs rb w = xs.length - s.1 := by
  unfold rschLeft
  simp only [h.cells.2.1]
  rw [Int.toNat_natCast]

set_option maxRecDepth 100000 in
set_option maxHeartbeats 2000000 in
theorem rscParse_any (s : ByteArray) (w : World) (hs : s.size ≤ 9223372036854775807) :
    Calls Tryd.prog 26 #[.string s] w (ParseScPost (parseSc (bts s)) w) := by
  obtain ⟨r, hr⟩ : ∃ r, parseSc (bts s) = r := ⟨_, rfl⟩
  rw [hr]
  have HR := Lib.hid hr
  clear hr
  go_enter Tryd.func26, Tryd.ntmps26
  go_wp2_with fail
  refine (refScan_any s _ hs).mono ?_
  rintro e w1 ⟨v, he, ho, hb⟩
  obtain ⟨xs, er, at_, hsc⟩ : ∃ xs er at_, scanP (bts s) = (xs, er, at_) := ⟨_, _, _, rfl⟩
  rw [hsc] at he ho
  subst he
  have HB := Lib.hid hb
  have hsz := hb.size
  clear hb
  by_cases her : er = 0
  · subst her
    obtain ⟨rfl, hends, hnn, hze, hpos, hlen, htx⟩ := scan_hyp hsc
    have hrd : Rd w1 w1.heap.size 4 v xs.length (lxsCells xs) := Rd.of_own ho
    have hxm : xs.length < 1000000 := by omega
    have HRD := Lib.hid hrd
    have HENDS := Lib.hid hends
    have HNN := Lib.hid hnn
    have HTX := Lib.hid htx
    obtain ⟨RR, hRR⟩ : ∃ RR, scsAll xs xs.length 0 [] = RR := ⟨_, rfl⟩
    have hre : r = RR := by
      rw [← HR.out, parseSc, hsc]
      simp only [hRR, ne_eq, not_true_eq_false, if_false]
    subst hre
    have HRR := Lib.hid hRR
    obtain ⟨_, _, A0, cc, rfl, _, hcs⟩ := id hrd
    obtain ⟨b, off, rfl, hbb, _⟩ := hcs (by omega)
    clear hrd hends hnn hze htx hsc ho hRR HR hcs
    go_wp2_with fail
    have hrdr : IsR7 (w1.alloc (.cells #[.slice (some ⟨b, off, none⟩) xs.length cc, .int .i64 0, .bool false] 80)) w1.heap.size (.slice (some ⟨b, off, none⟩) xs.length cc) (0, false) := heap_alloc_last w1 _
    obtain ⟨w0, hw0⟩ : ∃ w0, w1.alloc (.cells #[.slice (some ⟨b, off, none⟩) xs.length cc, .int .i64 0, .bool false] 80) = w0 := ⟨_, rfl⟩
    have hb0 : Below w.heap.size w w0 := by rw [← hw0]; exact HB.out.alloc hsz _
    have hrd0 : Rd w0 w1.heap.size 4 (.slice (some ⟨b, off, none⟩) xs.length cc) xs.length (lxsCells xs) := by rw [← hw0]; exact HRD.out.below ((Below.refl _ _).alloc (Nat.le_refl _) _)
    have hz0 : w0.heap.size = w1.heap.size + 1 := by rw [← hw0, World.size_alloc]
    rw [hw0] at hrdr
    rw [hw0]
    obtain ⟨rb, hrb⟩ : ∃ rb, w1.heap.size = rb := ⟨_, rfl⟩
    rw [hrb] at hrdr hrd0 hz0 hsz hbb
    rw [hrb]
    have HRD0 := Lib.hid hrd0
    have HB0 := Lib.hid hb0
    have HRDR := Lib.hid hrdr
    clear hrdr hrd0 hb0 hw0 hrb HRD HB
    go_loopw [9] (RSchRel w0 rb (.slice (some ⟨b, off, none⟩) xs.length cc) xs r) (fun _ wr => rschLeft xs rb wr)
    case atStart => exact ⟨0, [], [], hpos, Nat.le_refl _, HRDR.out, ScMem.nil _ _, gb_refl, rfl, xs.length, by omega, HRR.out⟩
    case round =>
      obtain ⟨j, l, m, hj, hlj, hri, hm, hgi, hvl, n, hn, hRn⟩ := hrel
      obtain ⟨A1, q1, hu9, hq1, _⟩ := hm.rd.form
      subst hu9
      obtain ⟨c0, c1, c2, z0, z1, z2, hrs⟩ := hri.cells
      have HRI := Lib.hid hri
      have HM := Lib.hid hm
      have HGI := Lib.hid hgi
      have HVL := Lib.hid hvl
      have HRN := Lib.hid hRn
      have HPL := Lib.hid (rschLeft_of (xs := xs) hri)
      have hl8 := (validP_all hvl).1
      have hrdr := HRD0.out.gb hgi (Nat.le_refl _) (by omega)
      obtain ⟨x, hxe⟩ : ∃ x, lxAt xs j = x := ⟨_, rfl⟩
      obtain ⟨b', off', hA9, _, hml, d0, _, _, d3⟩ := lx_reads hrdr hj hxe
      injection hA9 with hA9
      injection hA9 with e4 e5
      subst e4 e5
      have hbs : b < wr.heap.size := by omega
      have HX := Lib.hid hxe
      have HBW := Lib.hid (show Below w.heap.size w wr from below_of_gb HB0.out hgi (by omega) hsz)
      have hszr := hgi.size
      clear hri hm hgi hvl hRn HRDR hrdr hxe
      by_cases hend : x.kind = 0
      · have hR : r = (l, 0, 0) := by rw [← HRN.out, scsAll_end (by rw [HX.out]; exact hend)]
        have hkb : (x.kind != 0) = false := by rw [hend]; rfl
        subst hR
        clear hend
        go_wp2_with fail
        go_ret3
        exact ⟨_, rfl, HM.out.rd, HBW.out⟩
      · have hkb : (x.kind != 0) = true := by rw [bne_iff_ne]; exact hend
        have HEND := Lib.hid hend
        clear hend
        go_wp2_with fail
        obtain ⟨N, hN⟩ : ∃ N, wr.heap.size = N := ⟨_, rfl⟩
        obtain ⟨w2, hw2⟩ : ∃ w2, wr.alloc (.cells #[.string ⟨#[]⟩, .int .i64 0, .slice none 0 0] 24) = w2 := ⟨_, rfl⟩
        have hz2 : w2.heap.size = N + 1 := by rw [← hw2, World.size_alloc, hN]
        have hb2 : Below wr.heap.size wr w2 := by rw [← hw2]; exact bel_alloc (Below.refl _ _)
        have hx2 : IsSc w2 N Sc.zero (.slice none 0 0) := by rw [← hw2, ← hN]; exact heap_alloc_last wr _
        rw [hw2]
        have HRI2 := Lib.hid (HRI.out.below hb2 hrs)
        have HM2 := Lib.hid (HM.out.below hb2)
        have HGI2 := Lib.hid (gb_belowS HGI.out hb2)
        have HX2 := Lib.hid hx2
        have HB2 := Lib.hid hb2
        clear hw2 hb2 hx2 c0 c1 c2 z0 z1 z2 d0 d3
        refine (rschedule_any (some ⟨b, off, none⟩) cc xs (j, false) w2 ((HRD0.out.gb HGI2.out (Nat.le_refl _) (by omega)).more (by omega)) hj hxm HENDS.out HNN.out).mono ?_
        rintro e w3 ⟨A, c, he, ho3, hb3⟩
        obtain ⟨n', rfl⟩ : ∃ n', n = n' + 1 := ⟨n - 1, by omega⟩
        have hRN := HRN.out
        rw [scsAll, if_neg (by rw [HX.out]; exact HEND.out), HX.out] at hRN
        have hin := scS_in HENDS.out (s := (j, false)) hj
        have hgt := scS_gt (xs := xs) (s := (j, false))
        have hyn := scS_name HTX.out (j, false)
        obtain ⟨y, j4, f4, hs4⟩ : ∃ y j4 f4, scS xs (j, false) = (y, (j4, f4)) := ⟨_, _, _, rfl⟩
        rw [hs4] at he ho3 hin hgt hyn hRN
        simp only at he ho3 hin hgt hyn hRN
        subst he
        have hz3 := hb3.size
        have hri3 := HRI2.out.below hb3 (by omega)
        have hx3 := HX2.out.below hb3 (by omega)
        obtain ⟨c0, c1, c2, z0, z1, z2, _⟩ := hri3.cells
        obtain ⟨p0, p1, p2, o0, o1, o2, hN3⟩ := hx3.cells
        have hNr : N ≠ rb := by omega
        have hrN : rb ≠ N := by omega
        have hst1 : IsR7 ((((((w3.setCell ⟨rb, 0, none⟩ (.slice (some ⟨b, off, none⟩) xs.length cc)).setCell ⟨rb, 1, none⟩ (.int .i64 j4)).setCell ⟨rb, 2, none⟩ (.bool f4)).setCell ⟨N, 0, none⟩ (.string (str y.name))).setCell ⟨N, 1, none⟩ (.int .i64 y.ramp)).setCell ⟨N, 2, none⟩ (.slice A y.stages.length c)) rb (.slice (some ⟨b, off, none⟩) xs.length cc) (j4, f4) :=
          (((IsR7.put (u := (j4, f4)) hri3).setO hrN _).setO hrN _).setO hrN _
        have hst2 : IsSc ((((((w3.setCell ⟨rb, 0, none⟩ (.slice (some ⟨b, off, none⟩) xs.length cc)).setCell ⟨rb, 1, none⟩ (.int .i64 j4)).setCell ⟨rb, 2, none⟩ (.bool f4)).setCell ⟨N, 0, none⟩ (.string (str y.name))).setCell ⟨N, 1, none⟩ (.int .i64 y.ramp)).setCell ⟨N, 2, none⟩ (.slice A y.stages.length c)) N y (.slice A y.stages.length c) :=
          IsSc.put (((hx3.setO hNr _).setO hNr _).setO hNr _) y _
        have hkk : ∀ k, k ≠ rb → k ≠ N → ((((((w3.setCell ⟨rb, 0, none⟩ (.slice (some ⟨b, off, none⟩) xs.length cc)).setCell ⟨rb, 1, none⟩ (.int .i64 j4)).setCell ⟨rb, 2, none⟩ (.bool f4)).setCell ⟨N, 0, none⟩ (.string (str y.name))).setCell ⟨N, 1, none⟩ (.int .i64 y.ramp)).setCell ⟨N, 2, none⟩ (.slice A y.stages.length c)).heap[k]? = w3.heap[k]? := fun k h1 h2 =>
          (Below.heap_setCell _ _ _ _ h2).trans ((Below.heap_setCell _ _ _ _ h2).trans ((Below.heap_setCell _ _ _ _ h2).trans ((Below.heap_setCell _ _ _ _ h1).trans ((Below.heap_setCell _ _ _ _ h1).trans (Below.heap_setCell _ _ _ _ h1)))))
        have hg4 : w0.grownBy ((((((w3.setCell ⟨rb, 0, none⟩ (.slice (some ⟨b, off, none⟩) xs.length cc)).setCell ⟨rb, 1, none⟩ (.int .i64 j4)).setCell ⟨rb, 2, none⟩ (.bool f4)).setCell ⟨N, 0, none⟩ (.string (str y.name))).setCell ⟨N, 1, none⟩ (.int .i64 y.ramp)).setCell ⟨N, 2, none⟩ (.slice A y.stages.length c)) (some rb) :=
          gb_setOther (gb_setOther (gb_setOther (gb_set (gb_set (gb_set (gb_belowS HGI2.out hb3) _) _) _) (by omega) _) (by omega) _) (by omega) _
        rw [hN]
        go_upto_region 10 with fail
        obtain ⟨W4, hW⟩ : ∃ W4, (((((w3.setCell ⟨rb, 0, none⟩ (.slice (some ⟨b, off, none⟩) xs.length cc)).setCell ⟨rb, 1, none⟩ (.int .i64 j4)).setCell ⟨rb, 2, none⟩ (.bool f4)).setCell ⟨N, 0, none⟩ (.string (str y.name))).setCell ⟨N, 1, none⟩ (.int .i64 y.ramp)).setCell ⟨N, 2, none⟩ (.slice A y.stages.length c) = W4 := ⟨_, rfl⟩
        rw [hW] at hst1 hst2 hkk hg4
        rw [hW]
        have hz4 : W4.heap.size = w3.heap.size := by rw [← hW]; simp [World.setCell]
        have HM4 := Lib.hid (HM.out.keep (w' := W4) (fun k h1 h2 => (hkk k (by omega) (by omega)).trans ((hb3.block k (by omega)).trans (HB2.out.block k h2))))
        have HO4 := Lib.hid (own_keep ho3 (w' := W4) (fun g hg => hkk g (by have := (own_lt ho3 g hg).1; omega) (by have := (own_lt ho3 g hg).1; omega)))
        have HOV := Lib.hid (fun g hg => (own_lt HM.out.2.1 g hg).2)
        have HRI4 := Lib.hid hst1
        have HX4 := Lib.hid hst2
        have HGI4 := Lib.hid hg4
        have HBW4 := Lib.hid (show Below w.heap.size w W4 from below_of_gb HB0.out hg4 (by omega) hsz)
        have HRG := Lib.hid (show W4.rangeAt N 0 (scCells y (.slice A y.stages.length c)) from rangeAt_block hst2)
        have hrd4 := HRD0.out.gb hg4 (Nat.le_refl _) (by omega)
        have hri4 := hst1.cells
        obtain ⟨d0, d1, d2, _, _, _, hrs4⟩ := hri4
        have hs4 := hg4.size
        have HY := Lib.hid hyn
        clear hst1 hst2 hkk hg4 hb3 ho3 hW c0 c1 c2 z0 z1 z2 p0 p1 p2 o0 o1 o2 hri3 hx3 hyn
        cases f4 with
        | true =>
          rw [if_pos rfl] at hRN
          obtain ⟨z, hz⟩ : ∃ z, lxAt xs j4 = z := ⟨_, rfl⟩
          rw [hz] at hRN
          obtain ⟨b', off', hA9, _, _, _, _, _, q3⟩ := lx_reads hrd4 hin hz
          injection hA9 with hA9
          injection hA9 with e4 e5
          subst e4 e5
          subst hRN
          clear hrd4 hz
          go_wp2_with fail
          go_region
          all_goals
            go_wp2_with fail
            go_ret3
            exact ⟨_, rfl, RdSc.nil _ _, HBW4.out.drew⟩
        | false =>
          rw [if_neg (by decide)] at hRN
          have hgt' := hgt rfl
          have HRN4 := Lib.hid hRN
          have hml4 : m.length = l.length := by rw [← HM4.out.1, List.length_map]
          have hmk : m.length ≤ 100000 := by omega
          obtain ⟨i1, hi1, hy0, hy1, hy2⟩ := info_parts info_sc3
          clear hRN hrd4 hml4
          go_wp2_with (first
            | ((with_reducible refine sc_load N 0 y (.slice A y.stages.length c) ?hx HRG.out ?_); (case hx => rfl))
            | ((with_reducible refine wpList_sliceAs (t := 25) 3 (scCells y (.slice A y.stages.length c)).toArray Tryd.underlying25 sc_info sc_zero ?h1 ?h2 ?hf ?_); (case h1 => decide); (case h2 => decide); (case hf => kernel_rfl); intro arr harr; subst harr)
            | (at_builtin; refine wpList_append_lies _ (by rfl) (.tmp 52) (.tmp 54) 25 (by rfl) (rb + 1) 24 i1 _ 3 48 Tryd.underlying25 hi1 hy0 hy1 hy2 rfl (by omega) (.slice A1 l.length q1) m.length (scsCells m) (by rfl) (World.ownsRow.alloc HM4.out.2.1 _)
                  ⟨W4.heap.size, 0, none⟩ 1 1 (scCells y (.slice A y.stages.length c)) (by rfl) (by rfl) (World.news_of_block (cs := (scCells y (.slice A y.stages.length c)).toArray) (t := 24) (fr := (0, 0)) (heap_alloc_last W4 _)) (sc_mem y)
                  (by omega) (by simp only [maxLen]; omega) (by omega) (by rw [World.size_alloc]; omega) _ rfl ?_; intro g7 cap7 w8 hown8 hgrow8 hat8 hlt8))
          have hm8 := HM4.out.push HO4.out (by omega) (fun g hg => by have := HOV.out g hg; omega) hown8 hgrow8 hat8
          have hov4 := own_lt HM4.out.2.1
          have hgw8 : W4.grownBy w8 (Value.slice A1 l.length q1).ownBlock := gb_trans (gb_alloc gb_refl _) hgrow8
          have hr8 : IsR7 w8 rb (.slice (some ⟨b, off, none⟩) xs.length cc) (j4, false) := (hgw8.block rb (by omega) (fun e => by have := (hov4 rb e.symm).1; omega)).trans HRI4.out
          have hg8 : w0.grownBy w8 (some rb) := gb_ownP HGI4.out hgw8 (fun g hg => by have := (hov4 g hg).1; omega)
          have hs8 := hg8.size
          have HM8 := Lib.hid hm8
          have HG8 := Lib.hid hg8
          have HR8 := Lib.hid hr8
          have HB8 := Lib.hid (show Below w.heap.size w w8 from below_of_gb HB0.out hg8 (by omega) hsz)
          clear hm8 hov4 hgw8 hr8 hg8 hown8 hgrow8 hat8
          refine (rlast_any l y _ w8 HM8.out.rd (by have := HY.out; omega)).mono ?_
          rintro e w9 ⟨he, hb9⟩
          obtain ⟨q, hq⟩ : ∃ q, lastErr l y = q := ⟨_, rfl⟩
          rw [hq] at he
          subst he
          have hr9 := HR8.out.below hb9 HR8.out.cells.2.2.2.2.2.2
          have HM9 := Lib.hid (HM8.out.below hb9)
          have HG9 := Lib.hid (gb_belowS HG8.out hb9)
          have HB9 := Lib.hid (HB8.out.trans (hb9.mono HB8.out.size))
          have HRN5 := Lib.hid HRN4.out
          have HR9 := Lib.hid hr9
          clear hb9 hr9
          by_cases hq0 : q = 0
          · subst hq0
            have h9 := HRN5.out
            rw [hq, if_neg (by decide)] at h9
            have HR10 := Lib.hid h9
            have HVN := Lib.hid (lastErr_valid HVL.out hq)
            clear h9 hq
            go_wp2_with fail
            refine ⟨⟨j4, l ++ [y], _, hin, ?_, HR9.out, HM9.out, HG9.out, HVN.out, n', by omega, HR10.out⟩, ?_⟩
            · rw [List.length_append]; simp only [List.length_cons, List.length_nil]; omega
            · rw [HPL.out, rschLeft_of HR9.out]; omega
          · have h9 := HRN5.out
            rw [hq, if_pos hq0] at h9
            have hqb : (q != 0) = true := by rw [bne_iff_ne]; exact hq0
            subst h9
            clear hq hq0
            go_wp2_with fail
            go_ret3
            exact ⟨_, rfl, RdSc.nil _ _, HB9.out⟩
  · have heb : (er != 0) = true := by rw [bne_iff_ne]; exact her
    have hrz : r = ([], er, at_) := by rw [← HR.out, parseSc, hsc]; simp [her]
    subst hrz
    clear her hsc ho
    go_wp2_with fail
    go_ret3
    exact ⟨_, rfl, RdSc.nil _ _, HB.out⟩

end Go.Proofs.YtabdlldkkcjppaaDoor

namespace Go.Proofs.YtabdlldkkcjppaaDoor
open Go.RowKit Saw Go.Sort

set_option maxRecDepth 100000 in
set_option maxHeartbeats 2000000 in
theorem rscFormat_any (l : List Sc) (v : Value) (w : World) (hrd : RdSc w w.heap.size v l) (hnm : ∀ x ∈ l, x.name.length ≤ 1000000) :
    Calls Tryd.prog 24 #[v] w (StrPost (formatSc l) w) := by
  obtain ⟨A, c, rfl, hc, hml⟩ := hrd.form
  obtain ⟨r, hr⟩ : ∃ r, formatSc l = r := ⟨_, rfl⟩
  rw [hr]
  unfold maxLen at hml
  have HR := Lib.hid hr
  have HRD := Lib.hid hrd
  have HNM := Lib.hid hnm
  clear hr hrd hnm
  go_enter Tryd.func24, Tryd.ntmps24
  go_wp2_with fail
  refine (rValid_any l _ _ HRD.out HNM.out).mono ?_
  rintro e w1 ⟨he, hb1⟩
  have HB1 := Lib.hid hb1
  have hsz1 := hb1.size
  clear hb1
  cases hq : validP l with
  | false =>
    rw [hq] at he
    subst he
    have hre : r = [] := by rw [← HR.out, formatSc, if_neg (by rw [hq]; decide)]
    subst hre
    clear hq
    go_wp2_with fail
    go_ret
    exact ⟨rfl, HB1.out⟩
  | true =>
    rw [hq] at he
    subst he
    have HQ := Lib.hid hq
    have HRF := Lib.hid (show l.flatMap scText = r by rw [← HR.out, formatSc, if_pos hq])
    have HALL := Lib.hid (validP_mem hq)
    have hl8 := (validP_all hq).1
    clear hq HR
    go_wp2_with fail
    go_loopw [3, 4] (fun s i wr => ∃ (k : Nat) (tt : ByteArray), k ≤ l.length ∧ i = .int .i64 k ∧ s = .string tt ∧ bts tt = (l.take k).flatMap scText ∧ Below w.heap.size w wr) (fun _ i _ => l.length - (intOf i).toNat)
    case atStart => exact ⟨0, ⟨#[]⟩, by omega, rfl, rfl, rfl, HB1.out⟩
    case round =>
      obtain ⟨k, tt, hk, rfl, rfl, htt, hb⟩ := hrel
      have HTT := Lib.hid htt
      have HB := Lib.hid hb
      have hszr := hb.size
      have hal : tt.size ≤ 5600 := by rw [size_bts, htt]; exact scTexts_len HQ.out k
      clear hb htt
      by_cases hlt : k < l.length
      · have hx : l[k]? = some l[k] := List.getElem?_eq_getElem hlt
        obtain ⟨x, hxe⟩ : ∃ x, l[k] = x := ⟨_, rfl⟩
        rw [hxe] at hx
        have hxc := HALL.out x (List.mem_of_getElem? hx)
        obtain ⟨hxn, hr1, hr2, hs1, hs2, hso⟩ := checkSc_ok hxc
        obtain ⟨b, off, A1, c1, rfl, hbl, hm1, hm2, hst, z0, z1, z2⟩ := RdSc.at_ HRD.out hx
        have q0 := (HB.out.cell (p := ⟨b, off + k * 3, none⟩) hbl).trans z0
        have q1 := (HB.out.cell (p := ⟨b, off + k * 3 + 1, none⟩) hbl).trans z1
        have hbr : b < wr.heap.size := by omega
        unfold maxLen at hm1
        have hnl := isNameP_len hxn
        have HX := Lib.hid hx
        have hsn : (str x.name).size ≤ 16 := by rw [size_str]; omega
        have HST := Lib.hid hst
        have HSO := Lib.hid hso
        have HZ2 := Lib.hid z2
        have hhl := scHead_len hxc
        obtain ⟨d1, hd1⟩ : ∃ d1, str (Lib.itoa x.ramp) = d1 := ⟨_, rfl⟩
        have D1 : Hid (∀ W, Calls Tryd.prog 42 #[.int .i64 x.ramp] W fun e w' => e = .returned (.string d1) ∧ Below W.heap.size W w') := fun W => by rw [← hd1]; exact decS_itoa _ (by omega) (by omega) W
        have s1 : d1.size ≤ 21 := by rw [← hd1]; exact sz_itoa x.ramp (by omega) (by omega)
        have HD := Lib.hid hd1
        have y0 : ∀ d os, (grow (redrawn wr d) os).cell? ⟨b, off + k * 3, none⟩ = some (.string (str x.name)) := fun d os => cell_regrown q0 d os
        have y1 : ∀ d os, (grow (redrawn wr d) os).cell? ⟨b, off + k * 3 + 1, none⟩ = some (.int .i64 x.ramp) := fun d os => cell_regrown q1 d os
        have g1 : ¬ 9223372036854775807 < tt.size + 9 := by omega
        have g2 : ¬ 9223372036854775807 < tt.size + 9 + (str x.name).size := by omega
        have g3 : ¬ 9223372036854775807 < tt.size + 9 + (str x.name).size + 6 := by omega
        have g4 : ¬ 9223372036854775807 < tt.size + 9 + (str x.name).size + 6 + d1.size := by omega
        have g5 : ¬ 9223372036854775807 < tt.size + 9 + (str x.name).size + 6 + d1.size + 1 := by omega
        clear hx hxn hxe hxc hst hso z0 z1 z2 hd1 q0 q1
        go_wp2_with fail
        refine wp_region_quiet_below (by kernel_rfl) (by kernel_rfl) ?_
        repeat (first
          | (open Go.BigFrame in go_big_quiet_step ((with_reducible exact Calls.regrown_of (D1.out _))))
          | (quiet_step ((with_reducible exact Calls.regrown_of (D1.out _)))))
        refine wpQuiet_nil ?_
        rintro w6 ⟨p6, hw6⟩
        have hb6 : Below wr.heap.size wr w6 := by rw [hw6]; exact below_regrown _ _ _
        have HB6 := Lib.hid (HB.out.trans (hb6.mono hszr))
        obtain ⟨tq, htq⟩ : ∃ tq : ByteArray, tt ++ ⟨#[115, 99, 104, 101, 100, 117, 108, 101, 32]⟩ ++ str x.name ++ ⟨#[32, 114, 97, 109, 112, 32]⟩ ++ d1 ++ ⟨#[58]⟩ = tq := ⟨_, rfl⟩
        have hbq : bts tq = (l.take k).flatMap scText ++ scHead x := by
          rw [← htq]
          simp only [bts_append, ← HD.out, bts_str, HTT.out]
          simp only [show bts ⟨#[115, 99, 104, 101, 100, 117, 108, 101, 32]⟩ = [115, 99, 104, 101, 100, 117, 108, 101, 32] from rfl, show bts ⟨#[32, 114, 97, 109, 112, 32]⟩ = [32, 114, 97, 109, 112, 32] from rfl, show bts ⟨#[58]⟩ = [58] from rfl, scHead, scheduleW, rampW, List.append_assoc, List.cons_append, List.nil_append]
        obtain ⟨accH, haH⟩ : ∃ accH, (l.take k).flatMap scText ++ scHead x = accH := ⟨_, rfl⟩
        have lnH : accH.length ≤ 5700 := by rw [← haH, List.length_append, ← HTT.out, ← size_bts]; omega
        rw [haH] at hbq
        have HBQ := Lib.hid hbq
        have HAH := Lib.hid haH
        rw [htq]
        clear y0 y1 g1 g2 g3 g4 g5 hw6 hb6 htq hbq haH s1 D1 HD
        go_wp2_with fail
        go_loopw [3, 5] (fun s i wq => ∃ (j : Nat) (tj : ByteArray), j ≤ x.stages.length ∧ i = .int .i64 j ∧ s = .string tj ∧ bts tj = accH ++ (x.stages.take j).flatMap stgText ∧ Below w.heap.size w wq) (fun _ i _ => x.stages.length - (intOf i).toNat)
        case atStart => exact ⟨0, tq, by omega, rfl, rfl, by rw [List.take_zero, List.flatMap_nil, List.append_nil]; exact HBQ.out, HB6.out⟩
        case round =>
          obtain ⟨j, tj, hj, rfl, rfl, htj, hbj⟩ := hrel
          have HTJ := Lib.hid htj
          have HBR := Lib.hid hbj
          have hsz4 := hbj.size
          have lnj : tj.size ≤ 6300 := by
            have h9 := stgsText_len (x.stages.take j) (fun y hy => HSO.out y (List.mem_of_mem_take hy))
            rw [List.length_take] at h9
            rw [size_bts, htj, List.length_append]
            omega
          have q2 := (hbj.cell (p := ⟨b, off + k * 3 + 2, none⟩) hbl).trans HZ2.out
          have hbr2 : b < wr.heap.size := by omega
          clear htj hbj
          by_cases hjl : j < x.stages.length
          · have hy : x.stages[j]? = some x.stages[j] := List.getElem?_eq_getElem hjl
            obtain ⟨y, hye⟩ : ∃ y, x.stages[j] = y := ⟨_, rfl⟩
            rw [hye] at hy
            obtain ⟨b2, o2, rfl, hb2, p0, p1, p2, p3⟩ := RdSt.at_ (HST.out.below HBR.out) hy
            have hys := HSO.out y (List.mem_of_getElem? hy)
            obtain ⟨a1, a2, b1, b2', h0z, t1, t2, e1, e2⟩ := soundP_iff.1 hys
            have H0Z := Lib.hid h0z
            clear h0z
            have HY := Lib.hid hy
            have hb2r : b2 < wr.heap.size := by omega
            obtain ⟨N, hN⟩ : ∃ N, wr.heap.size = N := ⟨_, rfl⟩
            obtain ⟨V, hV⟩ : ∃ V, wr.alloc (.cells #[.int .i64 y.below, .int .i64 y.ticks, .int .i64 y.temp, .int .i64 y.dep] 52) = V := ⟨_, rfl⟩
            have HNV := Lib.hid (show V.heap[N]? = some (.cells #[.int .i64 y.below, .int .i64 y.ticks, .int .i64 y.temp, .int .i64 y.dep] 52 (0, 0)) by rw [← hV, ← hN]; exact heap_alloc_last wr _)
            have hNV : N < V.heap.size := by rw [← hV, World.size_alloc]; omega
            have HBV := Lib.hid (show Below w.heap.size w V by rw [← hV]; exact HBR.out.alloc hsz4 _)
            have HV := Lib.hid hV
            have HN := Lib.hid hN
            have n0 : V.cell? ⟨N, 0, none⟩ = some (.int .i64 y.below) := cell_box HNV.out rfl
            have n1 : V.cell? ⟨N, 1, none⟩ = some (.int .i64 y.ticks) := cell_box HNV.out rfl
            clear hye hy hys hN hV
            go_upto_region 12 with fail
            rw [HV.out, HN.out]
            clear p0 p1 p2 p3 q2 HBR
            by_cases h1 : 0 < y.below
            · have HPT1 := Lib.hid (show partText belowW y.below = [32] ++ belowW ++ [32] ++ Lib.itoa y.below by rw [partText, if_pos (by omega)])
              go_wp2_with fail
              refine (decS_itoa y.below (by omega) (by omega) _).mono ?_
              rintro e v1 ⟨rfl, hbv⟩
              have HNV1 := Lib.hid ((hbv.block N hNV).trans HNV.out)
              have hNV1 : N < v1.heap.size := Nat.lt_of_lt_of_le hNV hbv.size
              have HBV1 := Lib.hid (HBV.out.trans (hbv.mono HBV.out.size))
              have m0 : v1.cell? ⟨N, 0, none⟩ = some (.int .i64 y.below) := cell_box HNV1.out rfl
              have m1 : v1.cell? ⟨N, 1, none⟩ = some (.int .i64 y.ticks) := cell_box HNV1.out rfl
              have sz1 := sz_itoa y.below (by omega) (by omega)
              clear hbv
              go_upto_region 14 with fail
              obtain ⟨t1, ht1⟩ : ∃ t : ByteArray, tj ++ ⟨#[32, 98, 101, 108, 111, 119, 32]⟩ ++ str (Lib.itoa y.below) = t := ⟨_, rfl⟩
              have lt1 : t1.size ≤ tj.size + 28 := by rw [← ht1, ByteArray.size_append, ByteArray.size_append]; have : (⟨#[32, 98, 101, 108, 111, 119, 32]⟩ : ByteArray).size = 7 := rfl; omega
              have HT1 := Lib.hid (show bts t1 = accH ++ (x.stages.take j).flatMap stgText ++ partText belowW y.below by rw [← ht1, HPT1.out]; simp only [bts_append, bts_str, HTJ.out, show bts ⟨#[32, 98, 101, 108, 111, 119, 32]⟩ = [32, 98, 101, 108, 111, 119, 32] from rfl, belowW, List.append_assoc, List.cons_append, List.nil_append])
              rw [ht1]
              clear ht1
              by_cases h2 : 0 < y.ticks
              · have HPT2 := Lib.hid (show partText forW y.ticks = [32] ++ forW ++ [32] ++ Lib.itoa y.ticks by rw [partText, if_pos (by omega)])
                go_wp2_with fail
                refine (decS_itoa y.ticks (by omega) (by omega) _).mono ?_
                rintro e v2 ⟨rfl, hbv⟩
                have HNV2 := Lib.hid ((hbv.block N hNV1).trans HNV1.out)
                have hNV2 : N < v2.heap.size := Nat.lt_of_lt_of_le hNV1 hbv.size
                have HBV2 := Lib.hid (HBV1.out.trans (hbv.mono HBV1.out.size))
                have m0 : v2.cell? ⟨N, 0, none⟩ = some (.int .i64 y.below) := cell_box HNV2.out rfl
                have m1 : v2.cell? ⟨N, 1, none⟩ = some (.int .i64 y.ticks) := cell_box HNV2.out rfl
                have sz2 := sz_itoa y.ticks (by omega) (by omega)
                clear hbv
                go_wp2_with fail
                obtain ⟨t2, ht2⟩ : ∃ t : ByteArray, t1 ++ ⟨#[32, 102, 111, 114, 32]⟩ ++ str (Lib.itoa y.ticks) = t := ⟨_, rfl⟩
                have lt2 : t2.size ≤ t1.size + 28 := by rw [← ht2, ByteArray.size_append, ByteArray.size_append]; have : (⟨#[32, 102, 111, 114, 32]⟩ : ByteArray).size = 5 := rfl; omega
                have HT2 := Lib.hid (show bts t2 = accH ++ (x.stages.take j).flatMap stgText ++ partText belowW y.below ++ partText forW y.ticks by rw [← ht2, HPT2.out]; simp only [bts_append, bts_str, HT1.out, show bts ⟨#[32, 102, 111, 114, 32]⟩ = [32, 102, 111, 114, 32] from rfl, forW, List.append_assoc, List.cons_append, List.nil_append])
                rw [ht2]
                clear ht2
                obtain ⟨d3, hd3⟩ : ∃ d, str (Lib.itoa y.temp) = d := ⟨_, rfl⟩
                obtain ⟨d4, hd4⟩ : ∃ d, str (Lib.itoa y.dep) = d := ⟨_, rfl⟩
                have D3 : Hid (∀ W, Calls Tryd.prog 42 #[.int .i64 y.temp] W fun e w' => e = .returned (.string d3) ∧ Below W.heap.size W w') := fun W => by rw [← hd3]; exact decS_itoa _ (by omega) (by omega) W
                have s3 : d3.size ≤ 21 := by rw [← hd3]; exact sz_itoa y.temp (by omega) (by omega)
                have D4 : Hid (∀ W, Calls Tryd.prog 42 #[.int .i64 y.dep] W fun e w' => e = .returned (.string d4) ∧ Below W.heap.size W w') := fun W => by rw [← hd4]; exact decS_itoa _ (by omega) (by omega) W
                have s4 : d4.size ≤ 21 := by rw [← hd4]; exact sz_itoa y.dep (by omega) (by omega)
                have HD := Lib.hid (And.intro hd3 hd4)
                have y2 : ∀ d os, (grow (redrawn v2 d) os).cell? ⟨N, 2, none⟩ = some (.int .i64 y.temp) := fun d os => cell_regrown (cell_box HNV2.out rfl) d os
                have y3 : ∀ d os, (grow (redrawn v2 d) os).cell? ⟨N, 3, none⟩ = some (.int .i64 y.dep) := fun d os => cell_regrown (cell_box HNV2.out rfl) d os
                have g1 : ¬ 9223372036854775807 < t2.size + 4 := by omega
                have g2 : ¬ 9223372036854775807 < t2.size + 4 + d3.size := by omega
                have g3 : ¬ 9223372036854775807 < t2.size + 4 + d3.size + 3 := by omega
                have g4 : ¬ 9223372036854775807 < t2.size + 4 + d3.size + 3 + d4.size := by omega
                have g5 : ¬ 9223372036854775807 < t2.size + 4 + d3.size + 3 + d4.size + 1 := by omega
                clear hd3 hd4
                refine wp_region_quiet_below (by kernel_rfl) (by kernel_rfl) ?_
                repeat (first
                  | (open Go.BigFrame in go_big_quiet_step ((first | (with_reducible exact Calls.regrown_of (D3.out _)) | (with_reducible exact Calls.regrown_of (D4.out _)))))
                  | (quiet_step ((first | (with_reducible exact Calls.regrown_of (D3.out _)) | (with_reducible exact Calls.regrown_of (D4.out _))))))
                refine wpQuiet_nil ?_
                rintro w7 ⟨p7, hw7⟩
                have hb7 : Below v2.heap.size v2 w7 := by rw [hw7]; exact below_regrown _ _ _
                have HB7 := Lib.hid (HBV2.out.trans (hb7.mono HBV2.out.size))
                clear y2 y3 g1 g2 g3 g4 g5 hw7 hb7
                go_wp2_with fail
                refine ⟨⟨j + 1, _, by omega, by go_num, rfl, ?_, HB7.out⟩, by simp [intOf]; omega⟩
                rw [List.take_add_one, HY.out, List.flatMap_append]
                simp only [bts_append, ← HD.out.1, ← HD.out.2, bts_str, HT2.out]
                simp only [show bts ⟨#[32, 97, 116, 32]⟩ = [32, 97, 116, 32] from rfl, show bts ⟨#[32, 45, 32]⟩ = [32, 45, 32] from rfl, show bts ⟨#[59]⟩ = [59] from rfl, Option.toList, List.flatMap_cons, List.flatMap_nil, stgText, atW, List.append_assoc, List.cons_append, List.nil_append, List.append_nil]
              · have hp2 : y.ticks = 0 := by omega
                have HPT2 := Lib.hid (show partText forW y.ticks = [] by rw [partText, if_neg (by omega)])
                clear hp2
                have HT2 := Lib.hid (show bts t1 = accH ++ (x.stages.take j).flatMap stgText ++ partText belowW y.below ++ partText forW y.ticks by rw [HT1.out, HPT2.out, List.append_nil])
                go_wp2_with fail
                obtain ⟨d3, hd3⟩ : ∃ d, str (Lib.itoa y.temp) = d := ⟨_, rfl⟩
                obtain ⟨d4, hd4⟩ : ∃ d, str (Lib.itoa y.dep) = d := ⟨_, rfl⟩
                have D3 : Hid (∀ W, Calls Tryd.prog 42 #[.int .i64 y.temp] W fun e w' => e = .returned (.string d3) ∧ Below W.heap.size W w') := fun W => by rw [← hd3]; exact decS_itoa _ (by omega) (by omega) W
                have s3 : d3.size ≤ 21 := by rw [← hd3]; exact sz_itoa y.temp (by omega) (by omega)
                have D4 : Hid (∀ W, Calls Tryd.prog 42 #[.int .i64 y.dep] W fun e w' => e = .returned (.string d4) ∧ Below W.heap.size W w') := fun W => by rw [← hd4]; exact decS_itoa _ (by omega) (by omega) W
                have s4 : d4.size ≤ 21 := by rw [← hd4]; exact sz_itoa y.dep (by omega) (by omega)
                have HD := Lib.hid (And.intro hd3 hd4)
                have y2 : ∀ d os, (grow (redrawn v1 d) os).cell? ⟨N, 2, none⟩ = some (.int .i64 y.temp) := fun d os => cell_regrown (cell_box HNV1.out rfl) d os
                have y3 : ∀ d os, (grow (redrawn v1 d) os).cell? ⟨N, 3, none⟩ = some (.int .i64 y.dep) := fun d os => cell_regrown (cell_box HNV1.out rfl) d os
                have g1 : ¬ 9223372036854775807 < t1.size + 4 := by omega
                have g2 : ¬ 9223372036854775807 < t1.size + 4 + d3.size := by omega
                have g3 : ¬ 9223372036854775807 < t1.size + 4 + d3.size + 3 := by omega
                have g4 : ¬ 9223372036854775807 < t1.size + 4 + d3.size + 3 + d4.size := by omega
                have g5 : ¬ 9223372036854775807 < t1.size + 4 + d3.size + 3 + d4.size + 1 := by omega
                clear hd3 hd4
                refine wp_region_quiet_below (by kernel_rfl) (by kernel_rfl) ?_
                repeat (first
                  | (open Go.BigFrame in go_big_quiet_step ((first | (with_reducible exact Calls.regrown_of (D3.out _)) | (with_reducible exact Calls.regrown_of (D4.out _)))))
                  | (quiet_step ((first | (with_reducible exact Calls.regrown_of (D3.out _)) | (with_reducible exact Calls.regrown_of (D4.out _))))))
                refine wpQuiet_nil ?_
                rintro w7 ⟨p7, hw7⟩
                have hb7 : Below v1.heap.size v1 w7 := by rw [hw7]; exact below_regrown _ _ _
                have HB7 := Lib.hid (HBV1.out.trans (hb7.mono HBV1.out.size))
                clear y2 y3 g1 g2 g3 g4 g5 hw7 hb7
                go_wp2_with fail
                refine ⟨⟨j + 1, _, by omega, by go_num, rfl, ?_, HB7.out⟩, by simp [intOf]; omega⟩
                rw [List.take_add_one, HY.out, List.flatMap_append]
                simp only [bts_append, ← HD.out.1, ← HD.out.2, bts_str, HT2.out]
                simp only [show bts ⟨#[32, 97, 116, 32]⟩ = [32, 97, 116, 32] from rfl, show bts ⟨#[32, 45, 32]⟩ = [32, 45, 32] from rfl, show bts ⟨#[59]⟩ = [59] from rfl, Option.toList, List.flatMap_cons, List.flatMap_nil, stgText, atW, List.append_assoc, List.cons_append, List.nil_append, List.append_nil]
            · have hp1 : y.below = 0 := by omega
              have HPT1 := Lib.hid (show partText belowW y.below = [] by rw [partText, if_neg (by omega)])
              clear hp1
              have HT1 := Lib.hid (show bts tj = accH ++ (x.stages.take j).flatMap stgText ++ partText belowW y.below by rw [HTJ.out, HPT1.out, List.append_nil])
              go_upto_region 14 with fail
              by_cases h2 : 0 < y.ticks
              · have HPT2 := Lib.hid (show partText forW y.ticks = [32] ++ forW ++ [32] ++ Lib.itoa y.ticks by rw [partText, if_pos (by omega)])
                go_wp2_with fail
                refine (decS_itoa y.ticks (by omega) (by omega) _).mono ?_
                rintro e v2 ⟨rfl, hbv⟩
                have HNV2 := Lib.hid ((hbv.block N hNV).trans HNV.out)
                have hNV2 : N < v2.heap.size := Nat.lt_of_lt_of_le hNV hbv.size
                have HBV2 := Lib.hid (HBV.out.trans (hbv.mono HBV.out.size))
                have m0 : v2.cell? ⟨N, 0, none⟩ = some (.int .i64 y.below) := cell_box HNV2.out rfl
                have m1 : v2.cell? ⟨N, 1, none⟩ = some (.int .i64 y.ticks) := cell_box HNV2.out rfl
                have sz2 := sz_itoa y.ticks (by omega) (by omega)
                clear hbv
                go_wp2_with fail
                obtain ⟨t2, ht2⟩ : ∃ t : ByteArray, tj ++ ⟨#[32, 102, 111, 114, 32]⟩ ++ str (Lib.itoa y.ticks) = t := ⟨_, rfl⟩
                have lt2 : t2.size ≤ tj.size + 28 := by rw [← ht2, ByteArray.size_append, ByteArray.size_append]; have : (⟨#[32, 102, 111, 114, 32]⟩ : ByteArray).size = 5 := rfl; omega
                have HT2 := Lib.hid (show bts t2 = accH ++ (x.stages.take j).flatMap stgText ++ partText belowW y.below ++ partText forW y.ticks by rw [← ht2, HPT2.out]; simp only [bts_append, bts_str, HT1.out, show bts ⟨#[32, 102, 111, 114, 32]⟩ = [32, 102, 111, 114, 32] from rfl, forW, List.append_assoc, List.cons_append, List.nil_append])
                rw [ht2]
                clear ht2
                obtain ⟨d3, hd3⟩ : ∃ d, str (Lib.itoa y.temp) = d := ⟨_, rfl⟩
                obtain ⟨d4, hd4⟩ : ∃ d, str (Lib.itoa y.dep) = d := ⟨_, rfl⟩
                have D3 : Hid (∀ W, Calls Tryd.prog 42 #[.int .i64 y.temp] W fun e w' => e = .returned (.string d3) ∧ Below W.heap.size W w') := fun W => by rw [← hd3]; exact decS_itoa _ (by omega) (by omega) W
                have s3 : d3.size ≤ 21 := by rw [← hd3]; exact sz_itoa y.temp (by omega) (by omega)
                have D4 : Hid (∀ W, Calls Tryd.prog 42 #[.int .i64 y.dep] W fun e w' => e = .returned (.string d4) ∧ Below W.heap.size W w') := fun W => by rw [← hd4]; exact decS_itoa _ (by omega) (by omega) W
                have s4 : d4.size ≤ 21 := by rw [← hd4]; exact sz_itoa y.dep (by omega) (by omega)
                have HD := Lib.hid (And.intro hd3 hd4)
                have y2 : ∀ d os, (grow (redrawn v2 d) os).cell? ⟨N, 2, none⟩ = some (.int .i64 y.temp) := fun d os => cell_regrown (cell_box HNV2.out rfl) d os
                have y3 : ∀ d os, (grow (redrawn v2 d) os).cell? ⟨N, 3, none⟩ = some (.int .i64 y.dep) := fun d os => cell_regrown (cell_box HNV2.out rfl) d os
                have g1 : ¬ 9223372036854775807 < t2.size + 4 := by omega
                have g2 : ¬ 9223372036854775807 < t2.size + 4 + d3.size := by omega
                have g3 : ¬ 9223372036854775807 < t2.size + 4 + d3.size + 3 := by omega
                have g4 : ¬ 9223372036854775807 < t2.size + 4 + d3.size + 3 + d4.size := by omega
                have g5 : ¬ 9223372036854775807 < t2.size + 4 + d3.size + 3 + d4.size + 1 := by omega
                clear hd3 hd4
                refine wp_region_quiet_below (by kernel_rfl) (by kernel_rfl) ?_
                repeat (first
                  | (open Go.BigFrame in go_big_quiet_step ((first | (with_reducible exact Calls.regrown_of (D3.out _)) | (with_reducible exact Calls.regrown_of (D4.out _)))))
                  | (quiet_step ((first | (with_reducible exact Calls.regrown_of (D3.out _)) | (with_reducible exact Calls.regrown_of (D4.out _))))))
                refine wpQuiet_nil ?_
                rintro w7 ⟨p7, hw7⟩
                have hb7 : Below v2.heap.size v2 w7 := by rw [hw7]; exact below_regrown _ _ _
                have HB7 := Lib.hid (HBV2.out.trans (hb7.mono HBV2.out.size))
                clear y2 y3 g1 g2 g3 g4 g5 hw7 hb7
                go_wp2_with fail
                refine ⟨⟨j + 1, _, by omega, by go_num, rfl, ?_, HB7.out⟩, by simp [intOf]; omega⟩
                rw [List.take_add_one, HY.out, List.flatMap_append]
                simp only [bts_append, ← HD.out.1, ← HD.out.2, bts_str, HT2.out]
                simp only [show bts ⟨#[32, 97, 116, 32]⟩ = [32, 97, 116, 32] from rfl, show bts ⟨#[32, 45, 32]⟩ = [32, 45, 32] from rfl, show bts ⟨#[59]⟩ = [59] from rfl, Option.toList, List.flatMap_cons, List.flatMap_nil, stgText, atW, List.append_assoc, List.cons_append, List.nil_append, List.append_nil]
              · have hp2 : y.ticks = 0 := by omega
                have h9 := H0Z.out
                exact absurd h9 (by omega)
          · obtain hje : j = x.stages.length := by omega
            have g0 : ¬ 9223372036854775807 < tj.size + 1 := by omega
            have HFIN := Lib.hid (show bts tj = accH ++ x.stages.flatMap stgText by have h9 := HTJ.out; rw [hje, List.take_length] at h9; exact h9)
            subst hje
            go_wp2_with fail
            refine ⟨⟨k + 1, _, by omega, by go_num, rfl, ?_, HBR.out⟩, by simp [intOf]; omega⟩
            rw [List.take_add_one, HX.out, List.flatMap_append]
            simp only [bts_append, HFIN.out, ← HAH.out, show bts ⟨#[10]⟩ = [10] from rfl, Option.toList, List.flatMap_cons, List.flatMap_nil, scText, List.append_assoc, List.append_nil]
      · have hke : k = l.length := by omega
        have hfin : str r = tt := by rw [← HRF.out]; have h9 := HTT.out; rw [hke, List.take_length] at h9; rw [← h9, str_bts]
        have HFIN := Lib.hid hfin
        clear hke hfin
        go_wp2_with fail
        go_ret
        exact ⟨by rw [HFIN.out]; rfl, HB.out⟩
      
      end Go.Proofs.YtabdlldkkcjppaaDoor
