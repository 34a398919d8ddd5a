/-
  The contract of sawmillref19.Parse.
-/
import Derived.Test.YtokgonpeolppnaaDoorPrU
import Derived.Test.YtokgonpeolppnaaDoorPrK
import Derived.Test.YtokgonpeolppnaaDoorPrF
import Derived.Test.YtokgonpeolppnaaDoorRefC
namespace Go.Proofs.YtokgonpeolppnaaDoor
open Go.RowKit Saw

def RRAt (w : World) (rb : Nat) (lv : Value) (k : Nat) (bad : Int) : Prop := w.heap[rb]? = some (.cells (rrCells lv k bad).toArray 60 (0, 0))
theorem RRAt.cells {w : World} {rb k : Nat} {lv : Value} {bad : Int} (h : RRAt w rb lv k bad) : w.cell? ⟨rb, 0, none⟩ = some lv ∧ w.cell? ⟨rb, 1, none⟩ = some (.int .i64 k) ∧ w.cell? ⟨rb, 2, none⟩ = some (.int .i64 bad) ∧ rb < w.heap.size := by
  refine ⟨?_, ?_, ?_, (Array.getElem?_eq_some_iff.1 h).1⟩
  · rw [cell_of_row w rb 0 _ _ (0, 0) h]; rfl
  · rw [cell_of_row w rb 1 _ _ (0, 0) h]; rfl
  · rw [cell_of_row w rb 2 _ _ (0, 0) h]; rfl
theorem ParMem.below {w w' : World} {base : Nat} {v vs : Value} {l : List Pr} {os : List Int} {m : List (Pr × Value × Value)} (h : ParMem w base v vs l os m) (hb : Below w.heap.size w w') : ParMem w' base v vs l os m := h.keep fun k _ hlt => hb.block k hlt
theorem ParMem.rows {w w' : World} {base g : Nat} {v vs : Value} {l : List Pr} {os : List Int} {m : List (Pr × Value × Value)} (h : ParMem w base v vs l os m) (hg : w.heap.size ≤ g ∨ g < base) (hk : ∀ k, k ≠ g → w'.heap[k]? = w.heap[k]?) : ParMem w' base v vs l os m := h.keep fun k h1 h2 => hk k (by omega)
theorem OwnsI.far {W W' : World} {base g : Nat} {v : Value} {l : List Int} (h : OwnsI W base v l) (hg : W.heap.size ≤ g ∨ g < base) (hk : ∀ k, k ≠ g → W'.heap[k]? = W.heap[k]?) : OwnsI W' base v l := own_keep h fun k hk' => hk k (by have := own_lt h k hk'; omega)

def RParRel (w0 : World) (rb : Nat) (lv : Value) (xs : List Lx) (R : List Pr × List Int × (Nat × Bool)) (vl vs : Value) (wr : World) : Prop :=
  ∃ (k : Nat) (l : List Pr) (os : List Int) (m : List (Pr × Value × Value)), k < xs.length ∧ RRAt wr rb lv k (-1) ∧ ParMem wr (rb + 1) vl vs l os m ∧ w0.grownBy wr (some rb) ∧ os.length = l.length ∧ l.length ≤ k ∧ (∀ x ∈ l, x.name.length ≤ 100000) ∧ ∃ n, xs.length - k ≤ n ∧ prodAll xs n (k, false) l os = R
def rparLeft (xs : List Lx) (rb : Nat) (w : World) : Nat := match w.cell? ⟨rb, 1, none⟩ with | some (.int _ n) => xs.length - n.toNat | _ => 0
theorem rparLeft_of {xs : List Lx} {w : World} {rb k : Nat} {lv : Value} {bad : Int} (h : RRAt w rb lv k bad) : rparLeft xs rb w = xs.length - k := by
  unfold rparLeft
  simp only [h.cells.2.1]
  rw [Int.toNat_natCast]

set_option maxRecDepth 100000 in
set_option maxHeartbeats 2000000 in
theorem refParse_pr (s : ByteArray) (w : World) (hs : s.size ≤ 9223372036854775807) :
    Calls Tryd.prog 23 #[.string s] w (ParsePrPost (parsePr (bts s)) w) := by
  obtain ⟨r, hr⟩ : ∃ r, parsePr (bts s) = r := ⟨_, rfl⟩
  rw [hr]
  have HR := Lib.hid hr
  clear hr
  go_enter Tryd.func23, Tryd.ntmps23
  go_wp2_with fail
  refine (refScan_any s _ hs).mono ?_
  rintro e w1 ⟨v, he, ho, hb⟩
  obtain ⟨xs, er, at_, hsc⟩ : ∃ xs er at_, scanP (bts s) = (xs, er, at_) := ⟨_, _, _, rfl⟩
  rw [hsc] at he ho
  subst he
  have HB := Lib.hid hb
  have hsz := hb.size
  clear hb
  by_cases her : er = 0
  · subst her
    have hgood := scanP_good (bts s) (by rw [hsc])
    rw [hsc] at hgood
    have hoff : ∀ x ∈ xs, 0 ≤ x.off := by
      have h1 := scanS_bound _ (bts s) 0 (Nat.le_refl _)
      rw [← scanP_eq (bts s) hgood.1, hsc] at h1
      intro x hx
      have := h1 x hx
      omega
    obtain ⟨_, _, ⟨xs0, hxs0, hk0⟩, hlen, htx⟩ := hgood
    simp only at hxs0 hlen htx
    have hrd : Rd w1 w1.heap.size 4 v xs.length (lxsCells xs) := Rd.of_own ho
    have hends : LxEnds xs := by rw [hxs0]; exact ends_ofP hk0
    have hpos : 0 < xs.length := by rw [hxs0, List.length_append, List.length_singleton]; omega
    obtain ⟨_, _, A0, cc, rfl, _, hcs⟩ := id hrd
    obtain ⟨b, off, rfl, hbb, _⟩ := hcs (by omega)
    have HRD := Lib.hid hrd
    have HENDS := Lib.hid hends
    have HTX := Lib.hid htx
    have HOF := Lib.hid hoff
    obtain ⟨RR, hRR⟩ : ∃ RR, prodAll xs xs.length (0, false) [] [] = RR := ⟨_, rfl⟩
    have hre : r = (if RR.2.2.2 = true then ([], 5, (lxAt xs RR.2.2.1).off) else if (headsErr RR.1 RR.2.1 0).1 ≠ 0 then ([], (headsErr RR.1 RR.2.1 0).1, (headsErr RR.1 RR.2.1 0).2) else (RR.1, 0, 0)) := by
      rw [← HR.out, parsePr, hsc]
      simp only [hRR, ne_eq, not_true_eq_false, if_false]
    have HRE := Lib.hid hre
    have HRR := Lib.hid hRR
    clear hrd hends htx hsc ho hxs0 hk0 hcs hre hRR HR hoff
    go_wp2_with fail
    have hrdr : RRAt (w1.alloc (.cells #[(.slice (some ⟨b, off, none⟩) xs.length cc), .int .i64 0, .int .i64 (-1)] 60)) w1.heap.size (.slice (some ⟨b, off, none⟩) xs.length cc) 0 (-1) := heap_alloc_last w1 _
    obtain ⟨w0, hw0⟩ : ∃ w0, w1.alloc (.cells #[(.slice (some ⟨b, off, none⟩) xs.length cc), .int .i64 0, .int .i64 (-1)] 60) = w0 := ⟨_, rfl⟩
    have hb0 : Below w.heap.size w w0 := by rw [← hw0]; exact HB.out.alloc hsz _
    have hrd0 : Rd w0 w1.heap.size 4 (.slice (some ⟨b, off, none⟩) xs.length cc) xs.length (lxsCells xs) := by rw [← hw0]; exact HRD.out.below ((Below.refl _ _).alloc (Nat.le_refl _) _)
    have hz0 : w0.heap.size = w1.heap.size + 1 := by rw [← hw0, World.size_alloc]
    rw [hw0] at hrdr
    rw [hw0]
    obtain ⟨rb, hrb⟩ : ∃ rb, w1.heap.size = rb := ⟨_, rfl⟩
    rw [hrb] at hrdr hrd0 hz0 hbb hsz
    rw [hrb]
    have HRD0 := Lib.hid hrd0
    have HB0 := Lib.hid hb0
    have HRDR := Lib.hid hrdr
    clear hrdr hrd0 hb0 hw0 hrb HRD HB
    go_loopw [9, 10] (RParRel w0 rb (.slice (some ⟨b, off, none⟩) xs.length cc) xs RR) (fun _ _ wr => rparLeft xs rb wr)
    case atStart => exact ⟨0, [], [], [], hpos, HRDR.out, ParMem.nil _ _, gb_refl, rfl, Nat.le_refl _, nofun, xs.length, by omega, HRR.out⟩
    case round =>
      obtain ⟨k, l, os, m, hkx, hri, hm, hgi, hol, hlk, hnm, n, hn, hpa⟩ := hrel
      obtain ⟨A1, q1, hu9, hq1, _⟩ := hm.rd.1.form
      subst hu9
      obtain ⟨A2, q2, hu10⟩ := hm.2.2.1.form
      subst hu10
      obtain ⟨c0, c1, c2, hrs⟩ := hri.cells
      obtain ⟨x, hxe⟩ : ∃ x, lxAt xs k = x := ⟨_, rfl⟩
      have hx := lxAt_some hkx
      rw [hxe] at hx
      obtain ⟨_, hml, A9, cp9, hA9, hcp, hcs⟩ := HRD0.out.gb hgi (Nat.le_refl _) (by omega)
      injection hA9 with e1 e2 e3
      subst e1 e3
      obtain ⟨b9, off9, hA9, _, hcell⟩ := hcs (by omega)
      injection hA9 with hA9
      injection hA9 with e4 e5
      subst e4 e5
      obtain ⟨k0, k1, k2, k3⟩ := lxs_at xs k x hx
      have hbs : b < wr.heap.size := by omega
      have d0 := hcell _ _ k0
      have d3 := hcell _ _ k3
      rw [← Nat.add_assoc] at d3
      unfold maxLen at hml
      have HPL := Lib.hid (rparLeft_of (xs := xs) hri)
      have HRI := Lib.hid hri
      have HM := Lib.hid hm
      have HGI := Lib.hid hgi
      have HX := Lib.hid hxe
      have HPA := Lib.hid hpa
      have HNM := Lib.hid hnm
      have HBW := Lib.hid (show Below w.heap.size w wr from below_of_gb HB0.out hgi (by omega) hsz)
      have HOL := Lib.hid hol
      have hol2 : os.length ≤ k := by omega
      clear hri hgi hxe hx hcell hcs k0 k1 k2 k3 hpa hnm HRDR hol
      by_cases hend : x.kind = 0
      · have hR : RR = (l, os, (k, false)) := by rw [← HPA.out, prodAll_stop (.inr (by rw [HX.out]; exact hend))]
        have hkb : (x.kind != 0) = false := by rw [hend]; rfl
        obtain ⟨E, hE⟩ : ∃ E, headsErr l os 0 = E := ⟨_, rfl⟩
        have hrz : r = (if E.1 ≠ 0 then ([], E.1, E.2) else (l, 0, 0)) := by rw [HRE.out, hR]; simp only [hE, Bool.false_eq_true, if_false]
        have HRZ := Lib.hid hrz
        have HE := Lib.hid (show headsErr l (os.drop 0) 0 = E from hE)
        obtain ⟨hrl, hro⟩ := hm.rd
        have HRL := Lib.hid hrl
        have HRO := Lib.hid hro
        have hszW := HBW.out.size
        obtain ⟨W, hW⟩ : ∃ W, W = wr := ⟨_, rfl⟩
        subst hW
        clear hend HPA hR hE hrz HRE HRR hm hrl hro HM
        go_wp2_with fail
        clear HRI HGI c0 c1 c2 d0 d3 HPL
        go_loopw [13] (fun i w2 => ∃ j : Nat, j ≤ l.length ∧ i = .int .i64 j ∧ headsErr l (os.drop j) j = E ∧ Below W.heap.size W w2) (fun i _ => l.length - (intOf i).toNat)
        case atStart => exact ⟨0, Nat.zero_le _, rfl, HE.out, Below.refl _ _⟩
        case round =>
          obtain ⟨j, hj, rfl, hej, hb2⟩ := hrel
          have HB2 := Lib.hid hb2
          have hsz2 := hb2.size
          clear hb2
          by_cases hlt : j < l.length
          · have hjo : j < os.length := by have := HOL.out; omega
            obtain ⟨y, hy⟩ : ∃ y, os[j]? = some y := ⟨_, List.getElem?_eq_getElem hjo⟩
            rw [headsErr_at hy] at hej
            obtain ⟨bo, oo, hA2, hbo, cy⟩ := RdI.at_ (HRO.out.below HB2.out) hy
            subst hA2
            obtain ⟨z, hz⟩ : ∃ z, l[j]? = some z := ⟨_, List.getElem?_eq_getElem hlt⟩
            obtain ⟨bl, ol, _, _, _, _, hA1, _⟩ := RdPr.at_ (HRL.out.below HB2.out) hz
            subst hA1
            have HTK := Lib.hid (RdPr.take (HRL.out.below HB2.out) (j + 1) (by omega))
            have HEJ := Lib.hid hej
            have hk1 : (0 : Int) ≤ (j : Int) + 1 := by omega
            have hk2 : (j : Int) + 1 ≤ (q1 : Int) := by omega
            have HYO := Lib.hid hy
            clear hej hy hz
            go_wp2_with fail
            refine (refPrCheck_any (l.take (j + 1)) _ _ (HTK.out.more hsz2) (fun x hx => Nat.le_trans (HNM.out x (List.mem_of_mem_take hx)) (by omega))).mono ?_
            rintro e w3 ⟨he, hb3⟩
            obtain ⟨q, hq⟩ : ∃ q, checkPr (l.take (j + 1)) = q := ⟨_, rfl⟩
            rw [hq] at he
            subst he
            have HB3 := Lib.hid (HB2.out.trans (hb3.mono hsz2))
            have cy3 : w3.cell? ⟨bo, oo + j, none⟩ = some (.int .i64 y) := (hb3.cell (p := ⟨bo, oo + j, none⟩) (by show bo < _; omega)).trans cy
            have g0 : (0 : Int) ≤ (j : Int) := by omega
            have g1 : (j : Int) < (os.length : Int) := by omega
            clear hb3 cy
            by_cases hq0 : q = 0
            · subst hq0
              have HN := Lib.hid (show headsErr l (os.drop (j + 1)) (j + 1) = E by have h9 := HEJ.out; rw [if_neg (by rw [hq]; simp)] at h9; exact h9)
              clear hq
              go_wp2_with fail
              exact ⟨⟨j + 1, by omega, by go_num, HN.out, HB3.out⟩, by simp [intOf]; omega⟩
            · have hEz : E = (q, y) := by rw [← HEJ.out, if_pos (by rw [hq]; exact hq0), hq]
              have hrz : r = ([], q, y) := by rw [HRZ.out, hEz, if_pos hq0]
              have hqb : (q != 0) = true := by rw [bne_iff_ne]; exact hq0
              subst hrz
              clear hEz hq hq0
              go_wp2_with fail
              go_quiet (fail)
              go_wp2_with fail
              go_ret3
              exact ⟨_, rfl, rdPr_nil _ _, below_drewNn (HBW.out.trans (HB3.out.mono hszW)) _⟩
          · have hEz : E = (0, 0) := by rw [← hej, headsErr_end _ _ _ (by have := HOL.out; omega)]
            have hrz : r = (l, 0, 0) := by rw [HRZ.out, hEz]; simp
            subst hrz
            clear hej hEz HE
            go_wp2_with fail
            go_ret3
            exact ⟨_, rfl, (HRL.out.below HB2.out).more hsz2, HBW.out.trans (HB2.out.mono hszW)⟩
      · have hkb : (x.kind != 0) = true := by rw [bne_iff_ne]; exact hend
        obtain ⟨n', rfl⟩ : ∃ n', n = n' + 1 := ⟨n - 1, by omega⟩
        have HPB := Lib.hid (show prodAll xs n' (prodS xs (k, false)).2 (l ++ [(prodS xs (k, false)).1]) (os ++ [x.off]) = RR by
          have h9 := HPA.out; rw [prodAll, if_neg (by simp [HX.out, hend]), HX.out] at h9; exact h9)
        have hos := own_lt hm.2.2.1
        obtain ⟨i0, hi0, hz0', hz1, hz2⟩ := info_parts info_int
        have HRA := Lib.hid (show ∀ w5 : World, wr.grownBy w5 (Value.slice A2 os.length q2).ownBlock → RRAt w5 rb (.slice (some ⟨b, off, none⟩) xs.length cc) k (-1) from fun w5 hg => (hg.block rb hrs (fun e => by have := (hos rb e.symm).1; omega)).trans HRI.out)
        have HGA := Lib.hid (show ∀ w5 : World, wr.grownBy w5 (Value.slice A2 os.length q2).ownBlock → w0.grownBy w5 (some rb) from fun w5 hg => gb_ownP HGI.out hg (fun g hg => by have := (hos g hg).1; omega))
        clear hend HPA hos hm
        go_wp2_with (first
          | (at_builtin; refine wpList_append_lies _ (by rfl) (.tmp 35) (.tmp 43) 27 (by rfl) (rb + 1) 3 i0 _ 1 8 Tryd.underlying27 hi0 hz0' hz1 hz2 rfl (by omega) (.slice A2 os.length q2) os.length (ints os) (by rfl) (OwnsI.alloc HM.out.2.2.1 _) ⟨wr.heap.size, 0, none⟩ 1 1 [.int .i64 x.off] (by rfl) (by rfl) (World.news_of_block (cs := #[.int .i64 x.off]) (t := 3) (fr := (0, 0)) (heap_alloc_last wr _)) (by intro u hu; rw [List.mem_singleton.1 hu]; rfl) (by omega) (by simp only [maxLen]; omega) (by omega) (by rw [World.size_alloc]; omega) _ rfl ?_; intro gg cap w5 hown5 hgrow hat hlt; have hgw5 : wr.grownBy w5 (Value.slice A2 os.length q2).ownBlock := gb_trans (gb_alloc gb_refl _) hgrow; have HM5 := Lib.hid (HM.out.pushS hown5 hgrow hat); have HR5 := Lib.hid (HRA.out w5 hgw5); have HR5a := Lib.hid (show w5.heap[rb]? = some (.cells (rrCells (.slice (some ⟨b, off, none⟩) xs.length cc) k (-1)).toArray 60 (0, 0)) from HRA.out w5 hgw5); have HG5 := Lib.hid (HGA.out w5 hgw5); clear hown5 hgrow hat hlt hgw5)
          | ((with_reducible refine rr_load rb 0 (.slice (some ⟨b, off, none⟩) xs.length cc) k (-1) ?hx (rangeAt_block HR5a.out) ?_); (case hx => rfl)))
        have hz5 := HG5.out.size
        refine (one_any (some ⟨b, off, none⟩) cc xs (k, false) w5 ((HRD0.out.gb HG5.out (Nat.le_refl _) (by omega)).more (by omega)) hkx (by omega) HENDS.out HOF.out).mono ?_
        rintro e w6 ⟨y, v1, v2, he, ho1, ho2, hye, hb6⟩
        have hin := prodS_in HENDS.out (s := (k, false)) hkx
        have hgt := prodS_gt (xs := xs) (s := (k, false))
        have hyn := prodS_name HTX.out (k, false)
        have hpb := HPB.out
        obtain ⟨y0, s6, hs6⟩ : ∃ y0 s6, prodS xs (k, false) = (y0, s6) := ⟨_, _, rfl⟩
        rw [hs6] at he hye hin hgt hyn hpb
        simp only at he hye hin hgt hyn hpb
        obtain ⟨B1, p1, rfl⟩ := ho1.form
        obtain ⟨B2, p2, rfl⟩ := ho2.form
        subst he
        have hrs5 : rb < w5.heap.size := HR5.out.cells.2.2.2
        have hr6 : RRAt w6 rb (.slice (some ⟨b, off, none⟩) xs.length cc) k (-1) := (hb6.block rb hrs5).trans HR5.out
        have hm6 := HM5.out.below hb6
        have hg6 := gb_below HG5.out hb6
        have hsz6 := hb6.size
        have HR6 := Lib.hid hr6
        have HM6 := Lib.hid hm6
        have HG6 := Lib.hid hg6
        have HO1 := Lib.hid ho1
        have HO2 := Lib.hid ho2
        have HYE := Lib.hid hye
        have HHV := Lib.hid (fun g hg => (own_lt HM5.out.2.1 g hg).2)
        have HHS := Lib.hid (fun g hg => (own_lt HM5.out.2.2.1 g hg).2)
        have HPC := Lib.hid hpb
        have hml6 : m.length = l.length := by rw [← hm6.1, List.length_map]
        have hmk : m.length ≤ 100000 := by omega
        have HML := Lib.hid hml6
        have HBX := Lib.hid (show Below w.heap.size w w6 from below_of_gb HB0.out hg6 (by omega) hsz)
        have HFW := Lib.hid (fun (c9 c8 : Array Value) => show ((((w6.alloc (.cells c9 60)).alloc (.cells c8 29)).setRow w6.heap.size (rrCells (.slice (some ⟨b, off, none⟩) xs.length cc) s6.1 (badOf xs s6)).toArray).setRow (w6.heap.size + 1) (prCells y (.slice B1 y.lens.length p1) (.slice B2 y.prices.length p2)).toArray).heap[w6.heap.size]? = some (.cells (rrCells (.slice (some ⟨b, off, none⟩) xs.length cc) s6.1 (badOf xs s6)).toArray 60 (0, 0)) ∧ ((((w6.alloc (.cells c9 60)).alloc (.cells c8 29)).setRow w6.heap.size (rrCells (.slice (some ⟨b, off, none⟩) xs.length cc) s6.1 (badOf xs s6)).toArray).setRow (w6.heap.size + 1) (prCells y (.slice B1 y.lens.length p1) (.slice B2 y.prices.length p2)).toArray).heap[w6.heap.size + 1]? = some (.cells (prCells y (.slice B1 y.lens.length p1) (.slice B2 y.prices.length p2)).toArray 29 (0, 0)) ∧ (∀ k, k < w6.heap.size → ((((w6.alloc (.cells c9 60)).alloc (.cells c8 29)).setRow w6.heap.size (rrCells (.slice (some ⟨b, off, none⟩) xs.length cc) s6.1 (badOf xs s6)).toArray).setRow (w6.heap.size + 1) (prCells y (.slice B1 y.lens.length p1) (.slice B2 y.prices.length p2)).toArray).heap[k]? = w6.heap[k]?) ∧ ((((w6.alloc (.cells c9 60)).alloc (.cells c8 29)).setRow w6.heap.size (rrCells (.slice (some ⟨b, off, none⟩) xs.length cc) s6.1 (badOf xs s6)).toArray).setRow (w6.heap.size + 1) (prCells y (.slice B1 y.lens.length p1) (.slice B2 y.prices.length p2)).toArray).heap.size = w6.heap.size + 2 ∧ ((w6.alloc (.cells c9 60)).alloc (.cells c8 29)).heap[w6.heap.size]? = some (.cells c9 60 (0, 0)) ∧ (((w6.alloc (.cells c9 60)).alloc (.cells c8 29)).setRow w6.heap.size (rrCells (.slice (some ⟨b, off, none⟩) xs.length cc) s6.1 (badOf xs s6)).toArray).heap[w6.heap.size + 1]? = some (.cells c8 29 (0, 0)) from by
          have a1 : ((w6.alloc (.cells c9 60)).alloc (.cells c8 29)).heap[w6.heap.size]? = some (.cells c9 60 (0, 0)) := hpA (heap_alloc_last w6 _) _
          have a2 : ((w6.alloc (.cells c9 60)).alloc (.cells c8 29)).heap[w6.heap.size + 1]? = some (.cells c8 29 (0, 0)) := by have := heap_alloc_last (w6.alloc (.cells c9 60)) (.cells c8 29); rwa [World.size_alloc] at this
          have a3 : (((w6.alloc (.cells c9 60)).alloc (.cells c8 29)).setRow w6.heap.size (rrCells (.slice (some ⟨b, off, none⟩) xs.length cc) s6.1 (badOf xs s6)).toArray).heap[w6.heap.size + 1]? = some (.cells c8 29 (0, 0)) := (setRow_other _ _ _ _ (by omega)).trans a2
          refine ⟨(setRow_other _ _ _ _ (by omega)).trans (setRow_heap _ _ _ _ _ _ a1), setRow_heap _ _ _ _ _ _ a3, fun k hk => ?_, by simp [World.setRow], a1, a3⟩
          rw [setRow_other _ _ _ _ (by omega), setRow_other _ _ _ _ (by omega), alloc_old (by rw [World.size_alloc]; omega), alloc_old hk])
        clear hr6 hm6 hg6 ho1 ho2 hs6 hpb HPB HR5 hml6 hb6 c0 c1 c2 d0 d3 hye
        cases hf6 : s6.2 with
        | true =>
          have hbd : badOf xs s6 = (lxAt xs s6.1).off := by simp [badOf, hf6]
          have hbo : 0 ≤ badOf xs s6 := by rw [hbd]; exact HOF.out _ (List.mem_of_getElem? (lxAt_some hin))
          have hRz : RR = (l ++ [y0], os ++ [x.off], s6) := by rw [← HPC.out, prodAll_stop (.inl hf6)]
          have hrz : r = ([], 5, badOf xs s6) := by rw [HRE.out, hRz, if_pos hf6, hbd]
          subst hrz
          clear hbd hRz
          go_wp2_with (first
            | ((with_reducible refine rr_alloc ?_); intro c9 H9)
            | ((with_reducible refine pr_alloc ?_); intro c8 H8; rw [World.size_alloc]; have HA1 := Lib.hid (HFW.out c9 c8).2.2.2.2.1; have HA2 := Lib.hid (HFW.out c9 c8).2.2.2.2.2; have cb : ((((w6.alloc (.cells c9 60)).alloc (.cells c8 29)).setRow w6.heap.size (rrCells (.slice (some ⟨b, off, none⟩) xs.length cc) s6.1 (badOf xs s6)).toArray).setRow (w6.heap.size + 1) (prCells y (.slice B1 y.lens.length p1) (.slice B2 y.prices.length p2)).toArray).cell? ⟨w6.heap.size, 2, none⟩ = some (.int .i64 (badOf xs s6)) := (by rw [cell_of_row _ _ 2 _ _ (0, 0) (HFW.out c9 c8).1]; rfl))
            | ((with_reducible refine rr_put w6.heap.size (some ⟨b, off, none⟩) xs.length cc s6.1 (badOf xs s6) ?hx ?hy HA1.out H9 ?_); (case hx => rfl); (case hy => rfl))
            | ((with_reducible refine pr_put (w6.heap.size + 1) y (.slice B1 y.lens.length p1) (.slice B2 y.prices.length p2) rfl rfl ?hx ?hy HA2.out H8 ?_); (case hx => rfl); (case hy => rfl)))
          go_quiet (fail)
          go_wp2_with fail
          go_ret3
          refine ⟨_, rfl, rdPr_nil _ _, below_drewNn ?_ _⟩
          exact Below.setRow (Below.setRow ((HBX.out.alloc HBX.out.size _).alloc (by rw [World.size_alloc]; have := HBX.out.size; omega) _) HBX.out.size _) (by have := HBX.out.size; omega) _
        | false =>
          have hbd : badOf xs s6 = -1 := by simp [badOf, hf6]
          have hyy : y = y0 := HYE.out hf6
          subst hyy
          have hgt6 := hgt hf6
          have hbn : badOf xs s6 < 0 := by omega
          have HBD := Lib.hid hbd
          obtain ⟨i1, hi1, hy0, hy1, hy2⟩ := info_parts info_pr
          clear hbd hgt
          go_wp2_with (first
            | ((with_reducible refine rr_alloc ?_); intro c9 H9)
            | ((with_reducible refine pr_alloc ?_); intro c8 H8; rw [World.size_alloc]; have HA1 := Lib.hid (HFW.out c9 c8).2.2.2.2.1; have HA2 := Lib.hid (HFW.out c9 c8).2.2.2.2.2; obtain ⟨W, hWe⟩ : ∃ W, (((w6.alloc (.cells c9 60)).alloc (.cells c8 29)).setRow w6.heap.size (rrCells (.slice (some ⟨b, off, none⟩) xs.length cc) s6.1 (badOf xs s6)).toArray).setRow (w6.heap.size + 1) (prCells y (.slice B1 y.lens.length p1) (.slice B2 y.prices.length p2)).toArray = W := ⟨_, rfl⟩; have HWE := Lib.hid hWe; have hfw := HFW.out c9 c8; rw [hWe] at hfw; obtain ⟨g1, g2, g3, g4, _, _⟩ := hfw; have cb : W.cell? ⟨w6.heap.size, 2, none⟩ = some (.int .i64 (badOf xs s6)) := (by rw [cell_of_row _ _ 2 _ _ (0, 0) g1]; rfl); have HG1 := Lib.hid g1; have HG2 := Lib.hid g2; have HG3 := Lib.hid g3; have HR7 := Lib.hid (show W.heap[rb]? = some (.cells (rrCells (.slice (some ⟨b, off, none⟩) xs.length cc) k (-1)).toArray 60 (0, 0)) from (g3 rb (by omega)).trans HR6.out); have HS4 := Lib.hid g4; clear hWe g1 g2 g3 g4)
            | ((with_reducible refine rr_put w6.heap.size (some ⟨b, off, none⟩) xs.length cc s6.1 (badOf xs s6) ?hx ?hy HA1.out H9 ?_); (case hx => rfl); (case hy => rfl))
            | ((with_reducible refine pr_put (w6.heap.size + 1) y (.slice B1 y.lens.length p1) (.slice B2 y.prices.length p2) rfl rfl ?hx ?hy HA2.out H8 ?_); (case hx => rfl); (case hy => rfl); rw [HWE.out])
            | ((with_reducible refine rr_load w6.heap.size 0 (.slice (some ⟨b, off, none⟩) xs.length cc) s6.1 (badOf xs s6) ?hx (rangeAt_block HG1.out) ?_); (case hx => rfl))
            | ((with_reducible refine rr_put rb (some ⟨b, off, none⟩) xs.length cc s6.1 (badOf xs s6) ?hx ?hy HR7.out (Lib.hid (show (rrCells (.slice (some ⟨b, off, none⟩) xs.length cc) k (-1)).toArray.size = 3 from rfl)) ?_); (case hx => rfl); (case hy => rfl); (have HP2 := Lib.hid (show (W.setRow rb (rrCells (.slice (some ⟨b, off, none⟩) xs.length cc) s6.1 (badOf xs s6)).toArray).heap[w6.heap.size + 1]? = some (.cells (prCells y (.slice B1 y.lens.length p1) (.slice B2 y.prices.length p2)).toArray 29 (0, 0)) from (setRow_other _ _ _ _ (by omega)).trans HG2.out)); obtain ⟨W8, hW8⟩ : ∃ W8, W.setRow rb (rrCells (.slice (some ⟨b, off, none⟩) xs.length cc) s6.1 (badOf xs s6)).toArray = W8 := ⟨_, rfl⟩; rw [hW8] at HP2; rw [hW8]; have HW8 := Lib.hid hW8; clear hW8; have HM8 := Lib.hid (show ParMem W8 (rb + 1) (.slice A1 l.length q1) (.slice (some ⟨gg, 0, none⟩) (os.length + 1) cap) l (os ++ [x.off]) m from by rw [← HW8.out]; exact HM6.out.keep (fun k h1 h2 => (setRow_other _ _ _ _ (by omega)).trans (HG3.out k h2))); have hz8 : W8.heap.size = w6.heap.size + 2 := (by rw [← HW8.out]; have := HS4.out; simpa [World.setRow] using this))
            | ((with_reducible refine pr_load (w6.heap.size + 1) 0 y (.slice B1 y.lens.length p1) (.slice B2 y.prices.length p2) ?hx (rangeAt_block HP2.out) ?_); (case hx => rfl))
            | ((with_reducible refine wpList_sliceAs (t := 22) 7 (prCells y (.slice B1 y.lens.length p1) (.slice B2 y.prices.length p2)).toArray Tryd.underlying22 pr_info pr_zero ?h1 ?h2 ?hf ?_); (case h1 => decide); (case h2 => decide); (case hf => kernel_rfl); intro arr harr; subst harr)
            | (at_builtin; refine wpList_append_lies _ (by rfl) (.tmp 56) (.tmp 58) 22 (by rfl) (rb + 1) 29 i1 _ 7 96 Tryd.underlying22 hi1 hy0 hy1 hy2 rfl (by omega) (.slice A1 l.length q1) m.length (prsCells m) (by rfl) (World.ownsRow.alloc HM8.out.2.1 _) ⟨W8.heap.size, 0, none⟩ 1 1 (prCells y (.slice B1 y.lens.length p1) (.slice B2 y.prices.length p2)) (by rfl) (by rfl) (World.news_of_block (cs := (prCells y (.slice B1 y.lens.length p1) (.slice B2 y.prices.length p2)).toArray) (t := 29) (fr := (0, 0)) (heap_alloc_last W8 _)) (by intro u hu; exact List.all_eq_true.1 (pr_one y rfl rfl) u hu) (by omega) (by simp only [maxLen]; omega) (by omega) (by rw [World.size_alloc]; omega) _ rfl ?_; intro g9 cap9 w9 hown9 hgrow9 hat9 hlt9))
          have hk8 : ∀ k, k ≠ rb → k < w6.heap.size → W8.heap[k]? = w6.heap[k]? := fun k h1 h2 => by rw [← HW8.out, setRow_other _ _ _ _ h1]; exact HG3.out k h2
          have o1 : OwnsI W8 w5.heap.size (.slice B1 y.lens.length p1) y.lens := own_keep HO1.out (fun k hk => hk8 k (by have := (own_lt HO1.out k hk).1; omega) (own_lt HO1.out k hk).2)
          have o2 : OwnsI W8 w5.heap.size (.slice B2 y.prices.length p2) y.prices := own_keep HO2.out (fun k hk => hk8 k (by have := (own_lt HO2.out k hk).1; omega) (own_lt HO2.out k hk).2)
          have hmP := HM8.out.pushP o1 o2 (by omega) HHV.out HHS.out hown9 hgrow9 hat9
          have hov8 := own_lt HM8.out.2.1
          have hg89 : W8.grownBy w9 (Value.slice A1 l.length q1).ownBlock := gb_trans (gb_alloc gb_refl _) hgrow9
          have hr8 : W8.heap[rb]? = some (.cells (rrCells (.slice (some ⟨b, off, none⟩) xs.length cc) s6.1 (-1)).toArray 60 (0, 0)) := by rw [← HW8.out, setRow_heap _ _ _ _ _ _ HR7.out, HBD.out]
          have hr9 : RRAt w9 rb (.slice (some ⟨b, off, none⟩) xs.length cc) s6.1 (-1) := (hg89.block rb (by omega) (fun e => by have := (hov8 rb e.symm).1; omega)).trans hr8
          have hg8 : w0.grownBy W8 (some rb) := by rw [← HW8.out, ← HWE.out]; exact gb_setRow (gb_setRow (gb_setRow (gb_alloc (gb_alloc HG6.out _) _) (.inr (by omega)) _) (.inr (by omega)) _) (.inl rfl) _
          have hg9 : w0.grownBy w9 (some rb) := gb_ownP hg8 hg89 (fun g hg => by have := (hov8 g hg).1; omega)
          have hs6e : s6 = (s6.1, false) := by rw [← hf6]
          have hol := HOL.out
          refine ⟨⟨s6.1, l ++ [y], os ++ [x.off], _, hin, hr9, hmP, hg9, ?_, ?_, ?_, n', ?_, ?_⟩, ?_⟩
          · rw [List.length_append, List.length_append, hol]; rfl
          · rw [List.length_append]; simp only [List.length_cons, List.length_nil]; omega
          · intro z hz
            rcases List.mem_append.1 hz with hz | hz
            · exact HNM.out z hz
            · rw [List.mem_singleton.1 hz]; omega
          · omega
          · rw [← hs6e]; exact HPC.out
          · rw [HPL.out, rparLeft_of hr9]; omega
  · have heb : (er != 0) = true := by rw [bne_iff_ne]; exact her
    have hrz : r = ([], er, at_) := by rw [← HR.out, parsePr, hsc]; simp [her]
    subst hrz
    clear her hsc ho
    go_wp2_with fail
    go_ret3
    exact ⟨_, rfl, rdPr_nil _ _, HB.out⟩

end Go.Proofs.YtokgonpeolppnaaDoor
