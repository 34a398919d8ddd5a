/-
  PatternParts walked.
-/
import Derived.Test.YtbmcfodhjibooaaDoorPsB
import Derived.Test.YtbmcfodhjibooaaDoorPqB
import Derived.Lib.QuietBelow
import Derived.BigQuiet
namespace Go.Proofs.YtbmcfodhjibooaaDoor
open Go.RowKit Saw Go.Sort

theorem rcs_memV (l : List Rc) : ∀ u ∈ rcsCells l, u.oneCell' = true := by
  intro u hu
  simp only [rcsCells, rcCells, List.mem_flatMap, List.mem_cons, List.not_mem_nil, or_false] at hu
  obtain ⟨n, _, rfl | rfl | rfl | rfl⟩ := hu <;> rfl
theorem rcs_memL (x : Rc) : ∀ u ∈ [Value.int .i64 x.xa, .int .i64 x.xb, .int .i64 x.ya, .int .i64 x.yb], u.oneCell' = true := by
  intro u hu
  simp only [List.mem_cons, List.not_mem_nil, or_false] at hu
  rcases hu with rfl | rfl | rfl | rfl <;> rfl
/-- The list of all rectangles while it is put together; w2: the world ahead of it. -/
structure TlSt (w2 W : World) (v : Value) (acc : List Rc) : Prop where
  own : W.ownsRow w2.heap.size 25 4 v acc.length (rcsCells acc)
  bel : Below w2.heap.size w2 W
theorem TlSt.to {w2 W W5 : World} {v v' : Value} {acc ys : List Rc} {n : Nat} {o : Obj} (h : TlSt w2 W v acc) (hg : (W.alloc o).grownBy W5 v.ownBlock) (hn : n = acc.length + ys.length) {cs : List Value} (hc : cs = rcsCells ys) (hown : W5.ownsRow w2.heap.size 25 4 v' n (rcsCells acc ++ cs)) : TlSt w2 W5 v' (acc ++ ys) := by
  refine ⟨?_, (h.bel.alloc h.bel.size o).grown hg (by rw [World.size_alloc]; have := h.bel.size; omega) (fun k e => (own_at h.own e).1)⟩
  rw [List.length_append, show rcsCells (acc ++ ys) = rcsCells acc ++ rcsCells ys by simp [rcsCells], ← hn, ← hc]
  exact hown
theorem area_le {x : Rc} (h : -600 ≤ x.xa ∧ x.xa ≤ x.xb ∧ x.xb ≤ 600 ∧ -600 ≤ x.ya ∧ x.ya ≤ x.yb ∧ x.yb ≤ 600) : 0 ≤ areaR x ∧ areaR x ≤ 1440000 := by
  obtain ⟨h1, h2, h3, h4, h5, h6⟩ := h
  unfold areaR
  have hA : 0 ≤ (x.xb - x.xa) * (x.yb - x.ya) := Int.mul_nonneg (by omega) (by omega)
  have hB : (x.xb - x.xa) * (x.yb - x.ya) ≤ 1200 * 1200 := Int.mul_le_mul (by omega) (by omega) (by omega) (by omega)
  omega
theorem sum_le : ∀ (l : List Rc), (∀ x ∈ l, 0 ≤ areaR x ∧ areaR x ≤ 1440000) → 0 ≤ sumA l ∧ sumA l ≤ 1440000 * (l.length : Int)
  | [], _ => ⟨Int.le_refl _, Int.le_refl _⟩
  | x :: l, h => by
    have h1 := h x (by simp)
    have h2 := sum_le l (fun y hy => h y (by simp [hy]))
    rw [sumA, List.length_cons]
    omega
theorem in_ok {r x : Rc} (hr : RcOk r) (h : InR r x) : -600 ≤ x.xa ∧ x.xa ≤ x.xb ∧ x.xb ≤ 600 ∧ -600 ≤ x.ya ∧ x.ya ≤ x.yb ∧ x.yb ≤ 600 := by
  unfold RcOk at hr
  unfold InR at h
  omega
theorem apart_true {a b : Rc} (h : ApartR a b) : apartP a b = true := by
  unfold apartP
  rw [Bool.or_eq_true, decide_eq_true_eq, decide_eq_true_eq]
  exact h

set_option maxRecDepth 100000 in
set_option maxHeartbeats 8000000 in
theorem patternParts_walk (r : Rc) (ns : List Nd) (A : Option Addr) (c : Nat) (kerf : Int) (w : World) (hns : RdNd w w.heap.size (.slice A ns.length c) ns) (_hk : I64 kerf) (hv : VarsX w) :
    Calls Tryd.prog 7 #[.agg #[.int .i64 r.xa, .int .i64 r.xb, .int .i64 r.ya, .int .i64 r.yb, .slice A ns.length c], .int .i64 kerf] w (LawX w) := by
  obtain ⟨_, _, _, _, hml⟩ := hns.form
  unfold maxLen at hml
  have HV := Lib.hid hv
  have HNS := Lib.hid hns
  obtain ⟨W0, hW0⟩ : ∃ W0, w.alloc (.cells #[.int .i64 r.xa, .int .i64 r.xb, .int .i64 r.ya, .int .i64 r.yb, .slice A ns.length c] 28) = W0 := ⟨_, rfl⟩
  have hb0 : Below w.heap.size w W0 := by rw [← hW0]; exact bel_alloc (Below.refl _ _)
  have hp0 : PatAt W0 w.heap.size r (.slice A ns.length c) := by rw [← hW0]; exact heap_alloc_last w _
  have HB0 := Lib.hid hb0
  have HP0 := Lib.hid hp0
  obtain ⟨p0, p1, p2, p3, p4⟩ := cells5 hp0
  clear hb0 hp0 hns hv
  by_cases h127 : 127 < (ns.length : Int)
  · go_enter Tryd.func7, Tryd.ntmps7
    go_wp2_with fail
    refine (awake_any W0 (HV.out.next HB0.out)).mono ?_
    rintro e w1 ⟨he, hb1⟩
    subst he
    have HB1 := Lib.hid (bel_call HB0.out hb1)
    clear hb1
    go_wp2_with fail
    go_ret
    exact ⟨rfl, HB1.out⟩
  obtain ⟨LA, e1, hl1⟩ : ∃ LA e, leavesP r ns kerf = (LA, e) := ⟨_, _, rfl⟩
  obtain ⟨CA, e2, hc1⟩ : ∃ CA e, cutsP r ns kerf = (CA, e) := ⟨_, _, rfl⟩
  have hpt := pat_tiles r ns kerf
  rw [hl1, hc1] at hpt
  obtain ⟨hee, hbad, hgood⟩ := hpt
  simp only at hee hbad hgood
  subst hee
  have HL1 := Lib.hid hl1
  have HC1 := Lib.hid hc1
  have HBAD := Lib.hid hbad
  have HGOOD := Lib.hid hgood
  clear hl1 hc1 hbad hgood
  go_enter Tryd.func7, Tryd.ntmps7
  go_wp2_with fail
  refine (leaves_any r ns _ kerf W0 (HNS.out.next HB0.out)).mono ?_
  rintro e w1 ⟨v1, he, hl, hb⟩
  rw [HL1.out] at he hl
  subst he
  obtain ⟨Al, cl, rfl, _, mll⟩ := Rd.form_ hl
  have HL2 := Lib.hid (show Rd w1 w1.heap.size 5 (.slice Al LA.length cl) LA.length (lfsCells LA) from hl)
  have HP1 := Lib.hid ((hb.block w.heap.size (Array.getElem?_eq_some_iff.1 HP0.out).1).trans HP0.out)
  have HB1 := Lib.hid (bel_call HB0.out hb)
  clear hb hl p0 p1 p2 p3 p4
  obtain ⟨p0, p1, p2, p3, p4⟩ := cells5 HP1.out
  go_wp2_with fail
  refine (cuts_any r ns _ kerf w1 (HNS.out.next HB1.out)).mono ?_
  rintro e w2 ⟨v2, he, hl, hb⟩
  rw [HC1.out] at he hl
  subst he
  obtain ⟨Ac, cc, rfl, _, mlc⟩ := Rd.form_ hl
  simp only at mll mlc
  unfold maxLen at mll mlc
  have HC2 := Lib.hid (show Rd w2 w2.heap.size 4 (.slice Ac CA.length cc) CA.length (rcsCells CA) from hl)
  have HL3 := Lib.hid (Rd.next HL2.out hb)
  have HP2 := Lib.hid ((hb.block w.heap.size (Array.getElem?_eq_some_iff.1 HP1.out).1).trans HP1.out)
  have HB2 := Lib.hid (bel_call HB1.out hb)
  clear hb hl p0 p1 p2 p3 p4 HL2
  by_cases he0 : e1 = 0
  · subst he0
    obtain ⟨hok, htl, hln⟩ := HGOOD.out rfl
    have HOK := Lib.hid hok
    have HTL := Lib.hid htl
    have HLN := Lib.hid hln
    clear hok htl hln HGOOD HBAD
    go_upto_region 9 with fail
    have HO3 := Lib.hid (show (w2.alloc (.cells #[] 25)).ownsRow w2.heap.size 25 4 (.slice (some ⟨w2.heap.size, 0, none⟩) 0 0) 0 [] from ownsRow_new (cs := []) (Nat.le_refl _) rfl (by decide))
    have HCR := Lib.hid (show Rd (w2.alloc (.cells #[] 25)) (w2.alloc (.cells #[] 25)).heap.size 4 (.slice Ac CA.length cc) CA.length (rcsCells CA) from Rd.alloc HC2.out _)
    obtain ⟨i0, hi0, hz0, hz1, hz2⟩ := info_parts rc_infoE
    have hcl : CA.length ≤ 127 := by
      have := HLN.out
      rw [List.length_append] at this
      omega
    have hll : LA.length ≤ 127 := by
      have := HLN.out
      rw [List.length_append, List.length_map] at this
      omega
    go_upto_region 10 with (at_builtin; refine wpList_append_rows _ (by rfl) (.tmp 46) (.tmp 47) 38 (by rfl) w2.heap.size 25 i0 _ 4 32 Tryd.underlying38 hi0 hz0 hz1 hz2 rfl (by omega) (.slice (some ⟨w2.heap.size, 0, none⟩) 0 0) 0 [] (by rfl) HO3.out (.slice Ac CA.length cc) (by rfl) CA.length _ (rcsCells CA) HCR.out (rcs_memV CA) (by simp only [maxLen]; omega) (by omega) (by rw [World.size_alloc]; omega) ?_; intro v4 w4 hown4 hgrow; have HO4 := Lib.hid hown4; have HG4 := Lib.hid hgrow; clear hown4 hgrow)
    have HS4 := Lib.hid (show TlSt w2 w4 v4 CA from ⟨by have h := HO4.out; rw [Nat.zero_add, List.nil_append] at h; exact h, ((Below.refl _ _).alloc (Nat.le_refl _) _).grown HG4.out (by rw [World.size_alloc]; omega) (fun k e => (own_at HO3.out e).1)⟩)
    clear HO3 HCR HO4 HG4
    go_wp2_with fail
    go_loopw [9, 10] (fun av iv wr => ∃ k : Nat, iv = .int .i64 k ∧ k ≤ LA.length ∧ TlSt w2 wr av (CA ++ (LA.take k).map (·.rect))) (fun _ i _ => LA.length - (intOf i).toNat)
    case atStart => exact ⟨0, rfl, by omega, by rw [List.take_zero, List.map_nil, List.append_nil]; exact HS4.out⟩
    case round =>
      obtain ⟨k, rfl, hkl, hst⟩ := hrel
      obtain ⟨acc, hacc⟩ : ∃ acc, CA ++ (LA.take k).map (·.rect) = acc := ⟨_, rfl⟩
      rw [hacc] at hst
      have hlm : acc.length = CA.length + k := by rw [← hacc, List.length_append, List.length_map, List.length_take]; omega
      have HACC := Lib.hid hacc
      have hla : acc.length ≤ 254 := by omega
      obtain ⟨A2, c2, rfl, _, _⟩ := Rd.form_ (Rd.of_own hst.own)
      have HST := Lib.hid hst
      have HLM := Lib.hid hlm
      clear hst HS4 hacc hlm
      by_cases hlt : k < LA.length
      · obtain ⟨⟨⟨a1, a2, a3, a4⟩, pd⟩, hn⟩ : ∃ n, LA[k]? = some n := ⟨_, List.getElem?_eq_getElem hlt⟩
        obtain ⟨b1, o1, rfl, hb1, x0, x1, x2, x3, x4⟩ := Rd.lf_at (Rd.below HL3.out HST.out.bel) hn
        simp only at x0 x1 x2 x3 x4
        have hbr : b1 < wr.heap.size := Nat.lt_of_lt_of_le hb1 HST.out.bel.size
        have f1 : (0 : Int) ≤ (k : Int) := by omega
        have f2 : (k : Int) < (LA.length : Int) := by omega
        have HT := Lib.hid (show CA ++ (LA.take (k + 1)).map (·.rect) = acc ++ [⟨a1, a2, a3, a4⟩] by rw [List.take_add_one, hn, List.map_append, ← List.append_assoc, HACC.out]; rfl)
        clear hn hb1
        go_wp2_with (at_builtin; refine wpList_append_lies _ (by rfl) (.tmp 55) (.tmp 61) 38 (by rfl) w2.heap.size 25 i0 _ 4 32 Tryd.underlying38 hi0 hz0 hz1 hz2 rfl (by omega) (.slice A2 acc.length c2) acc.length (rcsCells acc) (by rfl) (World.ownsRow.alloc HST.out.own _) ⟨wr.heap.size, 0, none⟩ 1 1 [.int .i64 a1, .int .i64 a2, .int .i64 a3, .int .i64 a4] (by rfl) (by rfl) (World.news_of_block (cs := #[.int .i64 a1, .int .i64 a2, .int .i64 a3, .int .i64 a4]) (t := 25) (fr := (0, 0)) (heap_alloc_last wr _)) (rcs_memL ⟨a1, a2, a3, a4⟩) (by omega) (by simp only [maxLen]; omega) (by omega) (by rw [World.size_alloc]; have := HST.out.bel.size; omega) _ rfl ?_; intro g7 cap7 w8 hown7 hgrow hat hlt7; have HO7 := Lib.hid hown7; have HG7 := Lib.hid hgrow; clear hown7 hgrow hat hlt7)
        have HF := Lib.hid (show TlSt w2 w8 (.slice (some ⟨g7, 0, none⟩) (acc.length + 1) cap7) (CA ++ (LA.take (k + 1)).map (·.rect)) by
          rw [HT.out]
          exact HST.out.to (ys := [⟨a1, a2, a3, a4⟩]) HG7.out rfl rfl HO7.out)
        exact ⟨⟨k + 1, by go_num, by omega, HF.out⟩, by simp [intOf]; omega⟩
      · have hke : CA ++ LA.map (·.rect) = acc := by rw [← HACC.out, show k = LA.length by omega, List.take_length]
        have HTI := Lib.hid (show Tiles r acc from hke ▸ HTL.out)
        have HLE := Lib.hid (show acc.length = ns.length from hke ▸ HLN.out)
        have HR := Lib.hid (show Rd wr wr.heap.size 4 (.slice A2 acc.length c2) acc.length (rcsCells acc) from Rd.of_own HST.out.own)
        have HBR := Lib.hid (bel_call HB2.out HST.out.bel)
        obtain ⟨w5, hw5⟩ : ∃ w, wr = w := ⟨_, rfl⟩
        rw [hw5] at HR HBR ⊢
        have HP5 := Lib.hid (show PatAt w5 w.heap.size r (.slice A ns.length c) from hw5 ▸ (HST.out.bel.block w.heap.size (Array.getElem?_eq_some_iff.1 HP2.out).1).trans HP2.out)
        have hlc : acc.length ≤ 127 := by rw [HLE.out]; omega
        clear hke hw5 HST HLM HACC HTL HLN
        go_wp2_with fail
        go_loopw [11, 12] (fun sv iv wr => ∃ i : Nat, sv = .int .i64 (sumA (acc.take i)) ∧ iv = .int .i64 i ∧ i ≤ acc.length ∧ Below w5.heap.size w5 wr) (fun _ i _ => acc.length - (intOf i).toNat)
        case atStart => exact ⟨0, rfl, rfl, by omega, Below.refl _ _⟩
        case round =>
          obtain ⟨i, rfl, rfl, hil, hbw⟩ := hrel
          have HBW := Lib.hid hbw
          have hpw := (hbw.block w.heap.size (Array.getElem?_eq_some_iff.1 HP5.out).1).trans HP5.out
          have HPW := Lib.hid (show PatAt wr w.heap.size r (.slice A ns.length c) from hpw)
          have hNw : w.heap.size < wr.heap.size := (Array.getElem?_eq_some_iff.1 hpw).1
          obtain ⟨S, hS⟩ : ∃ S, sumA (acc.take i) = S := ⟨_, rfl⟩
          have hsl := sum_le (acc.take i) (fun x hx => area_le (in_ok HOK.out (HTI.out.ins x (List.mem_of_mem_take hx))))
          rw [hS, List.length_take] at hsl
          have hS0 : 0 ≤ S := hsl.1
          have hS1 : S ≤ 200000000 := by have := hsl.2; omega
          have HS := Lib.hid hS
          rw [hS]
          clear hsl hS hpw hbw
          by_cases hlt : i < acc.length
          · obtain ⟨x, hn⟩ : ∃ n, acc[i]? = some n := ⟨_, List.getElem?_eq_getElem hlt⟩
            have hin := HTI.out.ins x (List.mem_of_getElem? hn)
            have HIK := Lib.hid (in_ok HOK.out hin)
            have HN := Lib.hid hn
            obtain ⟨b1, o1, rfl, hb1, x0, x1, x2, x3⟩ := Rd.rc_at (Rd.below HR.out HBW.out) hn
            have hbr : b1 < wr.heap.size := Nat.lt_of_lt_of_le hb1 HBW.out.size
            have f1 : (0 : Int) ≤ (i : Int) := by omega
            have f2 : (i : Int) < (acc.length : Int) := by omega
            clear hn hb1
            go_upto_region 19 with fail
            obtain ⟨W6, hW6⟩ : ∃ W, wr.alloc (.cells #[.int .i64 x.xa, .int .i64 x.xb, .int .i64 x.ya, .int .i64 x.yb] 25) = W := ⟨_, rfl⟩
            have hb6 := bel_alloc (ob := .cells #[.int .i64 x.xa, .int .i64 x.xb, .int .i64 x.ya, .int .i64 x.yb] 25) (Below.refl wr.heap.size wr)
            have hx6 := heap_alloc_last wr (.cells #[.int .i64 x.xa, .int .i64 x.xb, .int .i64 x.ya, .int .i64 x.yb] 25)
            rw [hW6] at hb6 hx6 ⊢
            have HX6 := Lib.hid hx6
            have HB6 := Lib.hid (HBW.out.trans (hb6.mono HBW.out.size))
            have HP6 := Lib.hid (show PatAt W6 w.heap.size r (.slice A ns.length c) from (hb6.block w.heap.size hNw).trans HPW.out)
            obtain ⟨p0, p1, p2, p3, p4⟩ := cells5 HP6.out
            clear x0 x1 x2 x3 hb6 hx6 hW6
            obtain ⟨x0, x1, x2, x3⟩ := cells4 HX6.out
            obtain ⟨n1, n2, n3, n4, n5, n6⟩ : (¬ x.xb < x.xa) ∧ (¬ x.yb < x.ya) ∧ (¬ x.xa < r.xa) ∧ (¬ r.xb < x.xb) ∧ (¬ x.ya < r.ya) ∧ (¬ r.yb < x.yb) := by
              unfold InR at hin
              omega
            clear hin
            go_wp2_with fail
            refine (area_any x W6 HIK.out).mono ?_
            rintro e w7 ⟨he, hb7⟩
            obtain ⟨a, ha⟩ : ∃ a, (x.xb - x.xa) * (x.yb - x.ya) = a := ⟨_, rfl⟩
            rw [ha] at he
            subst he
            have har := area_le HIK.out
            unfold areaR at har
            rw [ha] at har
            obtain ⟨ha0, ha1⟩ := har
            have HA := Lib.hid (show sumA (acc.take (i + 1)) = S + a by rw [List.take_add_one, HN.out, sumA_app, HS.out]; simp [sumA, areaR, ha])
            have HB7 := Lib.hid (HB6.out.trans (hb7.mono HB6.out.size))
            have HX7 := Lib.hid ((hb7.block wr.heap.size (Array.getElem?_eq_some_iff.1 HX6.out).1).trans HX6.out)
            obtain ⟨G, hG⟩ : ∃ G, wr.heap.size = G := ⟨_, rfl⟩
            rw [hG] at HX7 ⊢
            clear hb7 ha p0 p1 p2 p3 p4 x0 x1 x2 x3 n1 n2 n3 n4 n5 n6 HX6 HP6 hbr hNw hG
            have hw1 : -9223372036854775808 ≤ S + a := by omega
            have hw2 : S + a ≤ 9223372036854775807 := by omega
            go_wp2_with fail
            go_loopw [14] (fun kv wr => ∃ k : Nat, kv = .int .i64 k ∧ k ≤ i ∧ Below w7.heap.size w7 wr) (fun k _ => i - (intOf k).toNat)
            case atStart => exact ⟨0, rfl, by omega, Below.refl _ _⟩
            case round =>
              obtain ⟨k, rfl, hki, hbk⟩ := hrel
              by_cases hlk : k < i
              · obtain ⟨y, hy⟩ : ∃ n, acc[k]? = some n := ⟨_, List.getElem?_eq_getElem (by omega)⟩
                have hap : apartP y x = true := apart_true (by
                  have h := List.pairwise_iff_getElem.1 HTI.out.apart k i (by omega) hlt hlk
                  have e1 := (List.getElem?_eq_some_iff.1 hy).2
                  have e2 := (List.getElem?_eq_some_iff.1 HN.out).2
                  rw [e1, e2] at h
                  exact h)
                obtain ⟨b2, o2, he2, hb2, y0, y1, y2, y3⟩ := Rd.rc_at (Rd.below HR.out (HB7.out.trans (hbk.mono HB7.out.size))) hy
                injection he2 with he2
                injection he2 with e3 e4 e5
                subst e3 e4
                have hx := (hbk.block G (Array.getElem?_eq_some_iff.1 HX7.out).1).trans HX7.out
                obtain ⟨x0, x1, x2, x3⟩ := cells4 hx
                have cx : ∀ d os, (grow (redrawn wr d) os).cell? ⟨G, 0, none⟩ = some (.int .i64 x.xa) ∧ (grow (redrawn wr d) os).cell? ⟨G, 1, none⟩ = some (.int .i64 x.xb) ∧ (grow (redrawn wr d) os).cell? ⟨G, 2, none⟩ = some (.int .i64 x.ya) ∧ (grow (redrawn wr d) os).cell? ⟨G, 3, none⟩ = some (.int .i64 x.yb) := fun d os => ⟨cell_regrown x0 d os, cell_regrown x1 d os, cell_regrown x2 d os, cell_regrown x3 d os⟩
                have cy : ∀ d os, (grow (redrawn wr d) os).cell? ⟨b1, o1 + k * 4, none⟩ = some (.int .i64 y.xa) ∧ (grow (redrawn wr d) os).cell? ⟨b1, o1 + k * 4 + 1, none⟩ = some (.int .i64 y.xb) ∧ (grow (redrawn wr d) os).cell? ⟨b1, o1 + k * 4 + 2, none⟩ = some (.int .i64 y.ya) ∧ (grow (redrawn wr d) os).cell? ⟨b1, o1 + k * 4 + 3, none⟩ = some (.int .i64 y.yb) := fun d os => ⟨cell_regrown y0 d os, cell_regrown y1 d os, cell_regrown y2 d os, cell_regrown y3 d os⟩
                have S1 : Hid (∀ d os, Calls Tryd.prog 32 #[.agg #[.int .i64 y.xa, .int .i64 y.xb, .int .i64 y.ya, .int .i64 y.yb], .agg #[.int .i64 x.xa, .int .i64 x.xb, .int .i64 x.ya, .int .i64 x.yb]] (grow (redrawn wr d) os) fun e w' => e = .returned (.bool true) ∧ Below (grow (redrawn wr d) os).heap.size (grow (redrawn wr d) os) w') := fun d os => by have h := apart_any y x (grow (redrawn wr d) os); rw [hap] at h; exact h
                have g1 : (0 : Int) ≤ (k : Int) := by omega
                have g2 : (k : Int) < (acc.length : Int) := by omega
                have g3 : (k : Int) < (i : Int) := by omega
                have HBK := Lib.hid hbk
                clear hy hap hb2 y0 y1 y2 y3 hx x0 x1 x2 x3 hbk
                go_wp2_with fail
                refine wp_region_quiet_below (by kernel_rfl) (by kernel_rfl) ?_
                repeat (first
                  | (open Go.BigFrame in go_big_quiet_step ((with_reducible exact Calls.regrown_of (S1.out _ _))))
                  | (quiet_step ((with_reducible exact Calls.regrown_of (S1.out _ _)))))
                refine wpQuiet_nil ?_
                rintro w9 ⟨z9, hw9⟩
                have HB9 := Lib.hid (bel_call HBK.out (show Below wr.heap.size wr w9 by rw [hw9]; exact below_regrown _ _ _))
                clear hw9 cx cy S1
                go_wp2_with fail
                exact ⟨⟨k + 1, by go_num, by omega, HB9.out⟩, by simp [intOf]; omega⟩
              · have HBE := Lib.hid (HB7.out.trans (hbk.mono HB7.out.size))
                clear hbk
                go_wp2_with fail
                exact ⟨⟨i + 1, by rw [HA.out], by go_num, by omega, HBE.out⟩, by simp [intOf]; omega⟩
          · have hke : i = acc.length := by omega
            have HZ := Lib.hid (show S = (r.xb - r.xa) * (r.yb - r.ya) by rw [← HS.out, hke, List.take_length]; exact HTI.out.area)
            have HB6 := Lib.hid (bel_call HBR.out HBW.out)
            obtain ⟨p0, p1, p2, p3, p4⟩ := cells5 HPW.out
            have hll2 : ((acc.length : Int) == (ns.length : Int)) = true := by rw [HLE.out, beq_iff_eq]
            clear hke
            go_wp2_with fail
            refine (area_any r wr HOK.out).mono ?_
            rintro e w7 ⟨he, hb7⟩
            rw [← HZ.out] at he
            subst he
            have HB7 := Lib.hid (bel_call HB6.out hb7)
            have HP7 := Lib.hid ((hb7.block w.heap.size (Array.getElem?_eq_some_iff.1 HPW.out).1).trans HPW.out)
            clear hb7 p0 p1 p2 p3 p4 HZ
            obtain ⟨p0, p1, p2, p3, p4⟩ := cells5 HP7.out
            go_wp2_with fail
            refine (awake_any w7 (HV.out.next HB7.out)).mono ?_
            rintro e w8 ⟨he, hb8⟩
            subst he
            have HB8 := Lib.hid (bel_call HB7.out hb8)
            clear hb8
            go_wp2_with fail
            go_ret
            exact ⟨rfl, HB8.out⟩
  · obtain ⟨rfl, rfl⟩ := HBAD.out he0
    have hne : (e1 != 0) = true := by rw [bne_iff_ne]; exact he0
    clear he0
    go_wp2_with fail
    refine (awake_any w2 (HV.out.next HB2.out)).mono ?_
    rintro e w3 ⟨he, hb3⟩
    subst he
    have HB3 := Lib.hid (bel_call HB2.out hb3)
    clear hb3
    go_wp2_with fail
    go_ret
    exact ⟨rfl, HB3.out⟩
end Go.Proofs.YtbmcfodhjibooaaDoor
