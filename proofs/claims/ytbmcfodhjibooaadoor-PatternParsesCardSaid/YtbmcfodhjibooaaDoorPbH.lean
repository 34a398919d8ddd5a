/-
  The contract of sawmillref21's Parse.
-/
import Derived.Test.YtbmcfodhjibooaaDoorPbG
import Derived.Test.YtbmcfodhjibooaaDoorRefC
import Derived.Test.YtbmcfodhjibooaaDoorPaS
namespace Go.Proofs.YtbmcfodhjibooaaDoor
open Go.RowKit Saw Go.Sort
theorem nodeR_all (xs : List Lx) (hend : LxEnds xs) (hk : xs.length < 1000000) (hnm : ∀ x ∈ xs, 0 ≤ x.num ∧ x.num ≤ 1099511627776) (rb Bn B : Nat) (lv : Value) (hB : B ≤ rb) (hrb : rb < Bn) : ∀ f, NodeRk xs rb Bn B lv f := by
  intro f
  induction f with
  | zero => exact nodeR_step xs hend hk hnm rb Bn B lv hB hrb 0 (fun f' e => by omega)
  | succ f ih => exact nodeR_step xs hend hk hnm rb Bn B lv hB hrb (f + 1) (fun f' e => (show f' = f by omega) ▸ ih)
theorem numQ_rng {xs : List Lx} {s : Ps} {lo hi : Int} (h : (numQ xs s lo hi).2.e = 0) : s.e = 0 ∧ lo ≤ (numQ xs s lo hi).1 ∧ (numQ xs s lo hi).1 ≤ hi := by
  by_cases hs : s.e = 0
  · refine ⟨hs, ?_⟩
    unfold numQ at h ⊢
    by_cases h2 : (num2 xs s).e ≠ 0
    · rw [if_pos h2] at h
      exact absurd h h2
    · rw [if_neg h2] at h ⊢
      simp only at h ⊢
      by_cases h3 : numV xs s < lo ∨ hi < numV xs s
      · rw [if_pos h3] at h
        exact absurd h (failQ_e (by decide))
      · omega
  · rw [numQ_bad hs] at h
    exact absurd h hs
/-- The memory of the reference's Parse: its results' block m0, the reader's block rb, the pattern's block M. -/
structure PrAt (w W : World) (m0 rb M : Nat) (lv : Value) (xs : List Lx) (s : Ps) (a b c d : Int) : Prop where
  ps : IsRs W rb lv (.slice none 0 0) s
  pb : W.heap[M]? = some (.cells #[.int .i64 a, .int .i64 b, .int .i64 c, .int .i64 d, .slice none 0 0] 28 (0, 0))
  res : W.heap[m0]? = some (.cells #[.int .i64 0, .int .i64 0, .int .i64 0, .int .i64 0, .slice none 0 0] 28 (0, 0))
  lx : Lxs W rb lv xs
  below : Below m0 w W
theorem PrAt.gb {w W w5 : World} {m0 rb M : Nat} {lv : Value} {xs : List Lx} {s s' : Ps} {a b c d : Int} (h : PrAt w W m0 rb M lv xs s a b c d) (h1 : m0 < rb) (h2 : rb < M) (hp : IsRs w5 rb lv (.slice none 0 0) s') (hg : W.grownBy w5 (some rb)) : PrAt w w5 m0 rb M lv xs s' a b c d := by
  have hM := (Array.getElem?_eq_some_iff.1 h.pb).1
  exact ⟨hp, (hg.block M hM (fun e => by injection e; omega)).trans h.pb, (hg.block m0 (by omega) (fun e => by injection e; omega)).trans h.res, h.lx.kept hg (Nat.le_refl _) (by omega), h.below.grown hg (by omega) (fun k e => by injection e; omega)⟩
theorem PrAt.put {w W : World} {m0 rb M : Nat} {lv : Value} {xs : List Lx} {s : Ps} {a b c d : Int} (h : PrAt w W m0 rb M lv xs s a b c d) (h1 : m0 < rb) (h2 : rb < M) (k : Nat) (v : Int) (a' b' c' d' : Int) (hms : (#[.int .i64 a, .int .i64 b, .int .i64 c, .int .i64 d, .slice none 0 0] : Array Value).setIfInBounds k (.int .i64 v) = #[.int .i64 a', .int .i64 b', .int .i64 c', .int .i64 d', .slice none 0 0]) : PrAt w (W.setCell ⟨M, k, none⟩ (.int .i64 v)) m0 rb M lv xs s a' b' c' d' := by
  have hM := (Array.getElem?_eq_some_iff.1 h.pb).1
  obtain ⟨q1, hgs⟩ := pat_set h.pb k (.int .i64 v)
  refine ⟨(hgs.block rb (by omega) (fun e => by injection e; omega)).trans h.ps, hms ▸ q1, (hgs.block m0 (by omega) (fun e => by injection e; omega)).trans h.res, Rd.keep h.lx fun q hq => World.cell?_of_block (a := q) (hgs.block q.block (by omega) (fun e => by injection e; omega)), h.below.grown hgs (by omega) (fun k e => by injection e; omega)⟩
/-- The end: the nodes are put into the pattern, and the pattern into its place. -/
theorem rpat_end {w u W : World} {m0 M rb Bn B : Nat} {lv v : Value} {xs : List Lx} {s : Ps} {ns : List Nd} {z0 z1 z2 z3 z4 : Value} {a b c d : Value} {y : Value} (hr : W.heap[m0]? = some (.cells #[z0, z1, z2, z3, z4] 28 (0, 0))) (hp : W.heap[M]? = some (.cells #[a, b, c, d, y] 28 (0, 0))) (hn : NrAt u W rb Bn B lv v xs s ns) (hb : Below m0 w W) (hm : m0 < M) (hM : M < Bn) :
    ((((((W.setCell ⟨M, 4, none⟩ v).setCell ⟨m0, 0, none⟩ a).setCell ⟨m0, 1, none⟩ b).setCell ⟨m0, 2, none⟩ c).setCell ⟨m0, 3, none⟩ d).setCell ⟨m0, 4, none⟩ v).heap[m0]? = some (.cells #[a, b, c, d, v] 28 (0, 0)) ∧
    RdNd ((((((W.setCell ⟨M, 4, none⟩ v).setCell ⟨m0, 0, none⟩ a).setCell ⟨m0, 1, none⟩ b).setCell ⟨m0, 2, none⟩ c).setCell ⟨m0, 3, none⟩ d).setCell ⟨m0, 4, none⟩ v) ((((((W.setCell ⟨M, 4, none⟩ v).setCell ⟨m0, 0, none⟩ a).setCell ⟨m0, 1, none⟩ b).setCell ⟨m0, 2, none⟩ c).setCell ⟨m0, 3, none⟩ d).setCell ⟨m0, 4, none⟩ v).heap.size v ns ∧
    Below m0 w ((((((W.setCell ⟨M, 4, none⟩ v).setCell ⟨m0, 0, none⟩ a).setCell ⟨m0, 1, none⟩ b).setCell ⟨m0, 2, none⟩ c).setCell ⟨m0, 3, none⟩ d).setCell ⟨m0, 4, none⟩ v) := by
  obtain ⟨_, gm⟩ := pat_set hp 4 v
  have hW := (Array.getElem?_eq_some_iff.1 hr).1
  have hMW := (Array.getElem?_eq_some_iff.1 hp).1
  have hr' := (gm.block m0 hW (fun e => by injection e; omega)).trans hr
  have hs := gm.size
  obtain ⟨h0, g0⟩ := pat_set hr' 0 a
  obtain ⟨h1, g1⟩ := pat_set h0 1 b
  obtain ⟨h2, g2⟩ := pat_set h1 2 c
  obtain ⟨h3, g3⟩ := pat_set h2 3 d
  obtain ⟨h4, g4⟩ := pat_set h3 4 v
  have hg := gb_tr (gb_tr (gb_tr (gb_tr g0 g1) g2) g3) g4
  have ho1 := hn.own.kept gm (.inr fun e => by have := (own_at hn.own e).1; omega)
  have ho := ho1.kept hg (.inr fun e => by have := (own_at hn.own e).1; omega)
  refine ⟨h4, Rd.of_own ho, (hb.grown gm (by omega) (fun k e => by injection e; omega)).grown hg (by omega) (fun k e => by injection e; omega)⟩

set_option maxRecDepth 100000 in
set_option maxHeartbeats 16000000 in
theorem rparse_any (s : ByteArray) (w : World) (hs : s.size ≤ 9223372036854775807) :
    Calls Tryd.prog 34 #[.string s] w (ParsePtPost (parsePt (bts s)) w) := by
  obtain ⟨r, hr⟩ : ∃ r, parsePt (bts s) = r := ⟨_, rfl⟩
  rw [hr]
  have HR := Lib.hid hr
  clear hr
  go_enter Tryd.func34, Tryd.ntmps34
  go_wp2_with fail
  refine (refScan_any s _ hs).mono ?_
  rintro e w1 ⟨v, he, ho, hb⟩
  obtain ⟨xs, er, at_, hsc⟩ : ∃ xs er at_, scanP (bts s) = (xs, er, at_) := ⟨_, _, _, rfl⟩
  rw [hsc] at he ho
  simp only at he ho
  have hb1 := hb.size
  rw [World.size_alloc] at hb1
  have hres : w1.heap[w.heap.size]? = some (.cells #[.int .i64 0, .int .i64 0, .int .i64 0, .int .i64 0, .slice none 0 0] 28 (0, 0)) :=
    (hb.block _ (by rw [World.size_alloc]; omega)).trans (heap_alloc_last w _)
  have hbw : Below w.heap.size w w1 := ⟨hb.os, hb.tape, hb.output, by omega, fun k hk => (hb.block k (by rw [World.size_alloc]; omega)).trans (Below.heap_alloc _ _ _ hk)⟩
  have HRES := Lib.hid hres
  have HBW := Lib.hid hbw
  have HO := Lib.hid ho
  have HSC := Lib.hid hsc
  clear hres hbw ho hsc hb
  by_cases her : er = 0
  · subst her
    obtain ⟨ha0, hpos, hends, hxl, hnm⟩ := scan_okp HSC.out
    subst ha0
    have hrd : Rd w1 w1.heap.size 4 v xs.length (lxsCells xs) := Rd.of_own HO.out
    subst he
    have HEND := Lib.hid hends
    have HNM := Lib.hid hnm
    obtain ⟨x0, hx0⟩ : ∃ x0, lxAt xs 0 = x0 := ⟨_, rfl⟩
    obtain ⟨off, hoff⟩ : ∃ off, x0.off = off := ⟨_, rfl⟩
    obtain ⟨s0, hs0⟩ : ∃ s0, pq1 xs = s0 := ⟨_, rfl⟩
    obtain ⟨⟨a, sA⟩, hA⟩ : ∃ p, numQ xs s0 (-600) 600 = p := ⟨_, rfl⟩
    obtain ⟨⟨b, sB⟩, hB⟩ : ∃ p, numQ xs sA (-600) 600 = p := ⟨_, rfl⟩
    obtain ⟨⟨cc, sC⟩, hC⟩ : ∃ p, numQ xs sB (-600) 600 = p := ⟨_, rfl⟩
    obtain ⟨⟨d, sD⟩, hD⟩ : ∃ p, numQ xs sC (-600) 600 = p := ⟨_, rfl⟩
    have hdA' : hdA xs = (a, sA) := by rw [hdA, hs0, hA]
    have hdB' : hdB xs = (b, sB) := by rw [hdB, hdA', hB]
    have hdC' : hdC xs = (cc, sC) := by rw [hdC, hdB', hC]
    have hdD' : hdD xs = (d, sD) := by rw [hdD, hdC', hD]
    have hk0 : s0.k < xs.length := by rw [← hs0]; exact takeQ_in HEND.out (by decide) hpos
    have hkA : sA.k < xs.length := by have := numQ_in HEND.out (lo := -600) (hi := 600) hk0; rw [hA] at this; exact this
    have hkB : sB.k < xs.length := by have := numQ_in HEND.out (lo := -600) (hi := 600) hkA; rw [hB] at this; exact this
    have hkC : sC.k < xs.length := by have := numQ_in HEND.out (lo := -600) (hi := 600) hkB; rw [hC] at this; exact this
    have hkD : sD.k < xs.length := by have := numQ_in HEND.out (lo := -600) (hi := 600) hkC; rw [hD] at this; exact this
    have hrng : sD.e = 0 → (sC.e = 0 ∧ -600 ≤ d ∧ d ≤ 600) ∧ (sB.e = 0 ∧ -600 ≤ cc ∧ cc ≤ 600) ∧ (sA.e = 0 ∧ -600 ≤ b ∧ b ≤ 600) ∧ (s0.e = 0 ∧ -600 ≤ a ∧ a ≤ 600) := fun h => by
      have r1 := numQ_rng (xs := xs) (s := sC) (lo := -600) (hi := 600) (by rw [hD]; exact h)
      rw [hD] at r1
      have r2 := numQ_rng (xs := xs) (s := sB) (lo := -600) (hi := 600) (by rw [hC]; exact r1.1)
      rw [hC] at r2
      have r3 := numQ_rng (xs := xs) (s := sA) (lo := -600) (hi := 600) (by rw [hB]; exact r2.1)
      rw [hB] at r3
      have r4 := numQ_rng (xs := xs) (s := s0) (lo := -600) (hi := 600) (by rw [hA]; exact r3.1)
      rw [hA] at r4
      exact ⟨r1, r2, r3, r4⟩
    obtain ⟨s5, hs5⟩ : ∃ s5, pq2 xs = s5 := ⟨_, rfl⟩
    have h5 : s5 = if b ≤ a ∨ d ≤ cc then failQ sD 19 off else sD := by rw [← hs5, pq2, hdA', hdB', hdC', hdD', hx0, hoff]
    have hk5 : s5.k < xs.length := by
      have hf : (failQ sD 19 off).k = sD.k := by rw [failQ]; split <;> rfl
      rw [h5]
      split
      · rw [hf]; exact hkD
      · exact hkD
    obtain ⟨⟨s6, ns⟩, h6⟩ : ∃ p, nodeQ xs 65 1 s5 [] = p := ⟨_, rfl⟩
    have hk6 : s6.k < xs.length := by have := nodeQ_in HEND.out 65 1 s5 [] hk5; rw [h6] at this; exact this
    obtain ⟨y, hy⟩ : ∃ y, lxAt xs s6.k = y := ⟨_, rfl⟩
    obtain ⟨s7, hs7⟩ : ∃ s7, endQ xs = s7 := ⟨_, rfl⟩
    have h7 : s7 = if y.kind ≠ 0 then failQ s6 5 y.off else s6 := by rw [← hs7, endQ, bodyQ, hs5, h6, hy]
    have hr7 : r = if s7.e ≠ 0 then ((⟨0, 0, 0, 0⟩, []), s7.e, s7.off) else ((⟨a, b, cc, d⟩, ns), 0, 0) := by
      rw [← HR.out, parsePt, HSC.out]
      simp only [ne_eq, not_true_eq_false, if_false, hs7, hdA', hdB', hdC', hdD', bodyQ, hs5, h6]
    obtain ⟨A, c, hv⟩ : ∃ A c, v = .slice A xs.length c := by obtain ⟨_, _, A, c, hv, _⟩ := id hrd; exact ⟨A, c, hv⟩
    subst hv
    have HRD := Lib.hid hrd
    have hb0 : ∃ bb oo, A = some ⟨bb, oo, none⟩ ∧ bb < w1.heap.size := by
      obtain ⟨bb, oo, cp, e, hb, _⟩ := lx_cells (show Lxs w1 w1.heap.size _ xs from hrd) hpos
      injection e with e
      exact ⟨bb, oo, e, hb⟩
    obtain ⟨bb, oo, rfl, hbb⟩ := hb0
    obtain ⟨d0, d1, d2, d3⟩ := lx_cells2 (show Lxs w1 w1.heap.size _ xs from hrd) hpos
    rw [hx0] at d0 d1 d2 d3
    rw [hoff] at d3
    simp only [Nat.zero_mul, Nat.add_zero] at d0 d1 d2 d3
    have H5 := Lib.hid h5
    have H7 := Lib.hid h7
    have HR7 := Lib.hid hr7
    have HRNG := Lib.hid hrng
    have HS0 := Lib.hid hs0
    have HX0 := Lib.hid hx0
    have HOFF := Lib.hid hoff
    have HA := Lib.hid hA
    have HB := Lib.hid hB
    have HC := Lib.hid hC
    have HD := Lib.hid hD
    have H6 := Lib.hid h6
    have HY := Lib.hid hy
    obtain ⟨rb, hrb⟩ : ∃ rb, w1.heap.size = rb := ⟨_, rfl⟩
    have hm0r : w.heap.size < rb := by omega
    obtain ⟨m0, hm0⟩ : ∃ m0, w.heap.size = m0 := ⟨_, rfl⟩
    have HM0 := Lib.hid hm0
    have HRB := Lib.hid hrb
    clear hrd hends hnm HO hx0 hoff hs0 hA hB hC hD hdA' hdB' hdC' hdD' hrng hs5 h5 h6 hy hs7 h7 hr7 hb1
    have hcase : (lxIs x0 1 frameW = true ∧ (x0.kind != 1) = false ∧ (str x0.text).toList = (⟨#[102, 114, 97, 109, 101]⟩ : ByteArray).toList) ∨ (lxIs x0 1 frameW = false ∧ ((x0.kind != 1) = true ∨ ((x0.kind != 1) = false ∧ ¬ (str x0.text).toList = (⟨#[102, 114, 97, 109, 101]⟩ : ByteArray).toList))) := by
      have ht : ((str x0.text).toList = (⟨#[102, 114, 97, 109, 101]⟩ : ByteArray).toList) ↔ (x0.text == frameW) = true := by
        have := str_ne x0.text ⟨#[102, 114, 97, 109, 101]⟩
        rw [show bts ⟨#[102, 114, 97, 109, 101]⟩ = frameW from rfl] at this
        rw [← this, beq_iff_eq]
      by_cases h1 : x0.kind = 1
      · have h11 : (x0.kind != 1) = false := by rw [bne_eq_false_iff_eq]; exact h1
        cases hxt : (x0.text == frameW) with
        | true => exact .inl ⟨by rw [lxIs, hxt, beq_iff_eq.2 h1]; rfl, h11, ht.2 hxt⟩
        | false => exact .inr ⟨by rw [lxIs, hxt, Bool.and_false], .inr ⟨h11, fun h => (by have := ht.1 h; rw [hxt] at this; cases this)⟩⟩
      · exact .inr ⟨by rw [lxIs, show (x0.kind == 1) = false by rw [beq_eq_false_iff_ne]; exact h1]; rfl, .inl (by rw [bne_iff_ne]; exact h1)⟩
    have HCASE := Lib.hid hcase
    clear hcase hrb hm0
    go_upto_region 6 with fail
    rw [HRB.out, HM0.out]
    obtain ⟨W2, hW2⟩ : ∃ W2, w1.alloc (.cells #[.slice (some ⟨bb, oo, none⟩) xs.length c, .int .i64 0, .int .i64 0, .int .i64 0, .slice none 0 0] 116) = W2 := ⟨_, rfl⟩
    rw [hW2]
    have hb2 : Below w1.heap.size w1 W2 := by rw [← hW2]; exact bel_alloc (Below.refl _ _)
    have hps2 : IsRs W2 rb (.slice (some ⟨bb, oo, none⟩) xs.length c) (.slice none 0 0) ⟨0, 0, 0⟩ := by rw [← hW2, ← HRB.out]; exact heap_alloc_last w1 _
    have hlx2 : Lxs W2 rb (.slice (some ⟨bb, oo, none⟩) xs.length c) xs := HRB.out ▸ Rd.below HRD.out hb2
    have hres2 : W2.heap[m0]? = some (.cells #[.int .i64 0, .int .i64 0, .int .i64 0, .int .i64 0, .slice none 0 0] 28 (0, 0)) := HM0.out ▸ (hb2.block _ (by have := HM0.out; have := HRB.out; omega)).trans HRES.out
    have hbw2 : Below m0 w W2 := HM0.out ▸ HBW.out.trans (hb2.mono (by have := HM0.out; have := HRB.out; omega))
    have HPS2 := Lib.hid hps2
    have HLX2 := Lib.hid hlx2
    have HRS2 := Lib.hid hres2
    have HBW2 := Lib.hid hbw2
    have hz2 : W2.heap.size = rb + 1 := by rw [← hW2, World.size_alloc, HRB.out]
    have HZ2 := Lib.hid hz2
    have hbbW : bb < W2.heap.size := by have := HRB.out; omega
    clear hW2 hb2 d0 d1 d2 d3 hbb hz2
    obtain ⟨d0, d1, d2, d3⟩ := lx_cells2 hlx2 hpos
    rw [HX0.out] at d0 d1 d2 d3
    rw [HOFF.out] at d3
    simp only [Nat.zero_mul, Nat.add_zero] at d0 d1 d2 d3
    obtain ⟨c0, c1, c2, c3, c4, cf, hrs⟩ := hps2.cells
    clear hps2 hlx2 hbw2
    rcases HCASE.out with ⟨hf, t1, t2⟩ | ⟨hf, ht⟩
    · have hs0 : s0 = ⟨1, 0, 0⟩ := by
        rw [← HS0.out, pq1, takeQ, if_pos (by rw [tryQ, HX0.out, hf]; rfl)]
      subst hs0
      clear hf
      go_upto_region 8 with fail
      all_goals
        first
          | (exfalso; simp_all; done)
          | skip
      obtain ⟨aw, haw⟩ : ∃ aw, numW (a, sA) = aw := ⟨_, rfl⟩
      obtain ⟨bw, hbw⟩ : ∃ bw, numW (b, sB) = bw := ⟨_, rfl⟩
      obtain ⟨ccw, hccw⟩ : ∃ ccw, numW (cc, sC) = ccw := ⟨_, rfl⟩
      obtain ⟨dw, hdw⟩ : ∃ dw, numW (d, sD) = dw := ⟨_, rfl⟩
      have HaW := Lib.hid haw
      have HbW := Lib.hid hbw
      have HccW := Lib.hid hccw
      have HdW := Lib.hid hdw
      clear haw hbw hccw hdw
      obtain ⟨M, hM⟩ : ∃ M, W2.heap.size = M := ⟨_, rfl⟩
      have hrM : rb < M := by have := HZ2.out; omega
      have hm0r : m0 < rb := by have := HM0.out; omega
      have HM := Lib.hid hM
      have hp3 : PrAt w ((W2.setCell ⟨rb, 1, none⟩ (.int .i64 1)).alloc (.cells #[.int .i64 0, .int .i64 0, .int .i64 0, .int .i64 0, .slice none 0 0] 28)) m0 rb M (.slice (some ⟨bb, oo, none⟩) xs.length c) xs ⟨1, 0, 0⟩ 0 0 0 0 := by
        have hg : W2.grownBy (W2.setCell ⟨rb, 1, none⟩ (.int .i64 1)) (some rb) := gb_cell gb_refl
        have hs : (W2.setCell ⟨rb, 1, none⟩ (.int .i64 1)).heap.size = M := by rw [← hM]; simp [World.setCell]
        have hrW := (Array.getElem?_eq_some_iff.1 HPS2.out).1
        refine ⟨(HPS2.out.setK (k := 1) (v := 1) rfl).alloc _, ?_, hpA ((hg.block m0 (by omega) (fun e => by injection e; omega)).trans HRS2.out) _, ?_, ?_⟩
        · have h := heap_alloc_last (W2.setCell ⟨rb, 1, none⟩ (.int .i64 1)) (.cells #[.int .i64 0, .int .i64 0, .int .i64 0, .int .i64 0, .slice none 0 0] 28)
          rw [hs] at h
          exact h
        · exact Rd.below (HLX2.out.kept hg (Nat.le_refl _) (by omega)) ((Below.refl _ _).alloc (by rw [hs]; omega) _)
        · exact (HBW2.out.grown hg (by omega) (fun k e => by injection e; omega)).alloc (by rw [hs]; omega) _
      clear hM
      go_upto_region 10 with fail
      rw [HM.out]
      obtain ⟨W3, hW3⟩ : ∃ W, (W2.setCell ⟨rb, 1, none⟩ (.int .i64 1)).alloc (.cells #[.int .i64 0, .int .i64 0, .int .i64 0, .int .i64 0, .slice none 0 0] 28) = W := ⟨_, rfl⟩
      rw [hW3] at hp3 ⊢
      have HP3 := Lib.hid hp3
      clear hp3 hW3 c0 c1 c2 c3 c4 cf hrs d0 d1 d2 d3 hbbW
      go_wp2_with fail
      refine (show Calls Tryd.prog 68 #[.pointer (some ⟨rb, 0, none⟩), .int .i64 (-600), .int .i64 600] W3 (RsPost W3 rb (.slice (some ⟨bb, oo, none⟩) xs.length c) (.slice none 0 0) sA (.int .i64 aw)) from by
        have := number_rs W3 rb rb (.slice (some ⟨bb, oo, none⟩) xs.length c) (.slice none 0 0) ⟨1, 0, 0⟩ xs (-600) 600 HP3.out.ps HP3.out.lx (Nat.le_refl _) HEND.out hk0 (by omega) HNM.out
        rw [HA.out, HaW.out] at this
        exact this).mono ?_
      rintro e1 w4 ⟨he, hi, hg⟩
      subst he
      have HQ4 := Lib.hid (HP3.out.gb hm0r hrM hi hg)
      have HP4' := Lib.hid (HQ4.out.put hm0r hrM 0 aw aw 0 0 0 rfl)
      obtain ⟨q0, q1, q2, q3, q4⟩ := cells5 HQ4.out.pb
      have qf := frz HQ4.out.pb
      clear hi hg
      go_upto_region 11 with fail
      obtain ⟨W4, hW⟩ : ∃ W, w4.setCell ⟨M, 0, none⟩ (.int .i64 aw) = W := ⟨_, rfl⟩
      rw [hW] at HP4' ⊢
      have HP4 := Lib.hid HP4'.out
      clear hW q0 q1 q2 q3 q4 qf HP4'
      go_wp2_with fail
      refine (show Calls Tryd.prog 68 #[.pointer (some ⟨rb, 0, none⟩), .int .i64 (-600), .int .i64 600] W4 (RsPost W4 rb (.slice (some ⟨bb, oo, none⟩) xs.length c) (.slice none 0 0) sB (.int .i64 bw)) from by
        have := number_rs W4 rb rb (.slice (some ⟨bb, oo, none⟩) xs.length c) (.slice none 0 0) sA xs (-600) 600 HP4.out.ps HP4.out.lx (Nat.le_refl _) HEND.out hkA (by omega) HNM.out
        rw [HB.out, HbW.out] at this
        exact this).mono ?_
      rintro e1 w5 ⟨he, hi, hg⟩
      subst he
      have HQ5 := Lib.hid (HP4.out.gb hm0r hrM hi hg)
      have HP5' := Lib.hid (HQ5.out.put hm0r hrM 1 bw aw bw 0 0 rfl)
      obtain ⟨q0, q1, q2, q3, q4⟩ := cells5 HQ5.out.pb
      have qf := frz HQ5.out.pb
      clear hi hg
      go_upto_region 12 with fail
      obtain ⟨W5, hW⟩ : ∃ W, w5.setCell ⟨M, 1, none⟩ (.int .i64 bw) = W := ⟨_, rfl⟩
      rw [hW] at HP5' ⊢
      have HP5 := Lib.hid HP5'.out
      clear hW q0 q1 q2 q3 q4 qf HP5'
      go_wp2_with fail
      refine (show Calls Tryd.prog 68 #[.pointer (some ⟨rb, 0, none⟩), .int .i64 (-600), .int .i64 600] W5 (RsPost W5 rb (.slice (some ⟨bb, oo, none⟩) xs.length c) (.slice none 0 0) sC (.int .i64 ccw)) from by
        have := number_rs W5 rb rb (.slice (some ⟨bb, oo, none⟩) xs.length c) (.slice none 0 0) sB xs (-600) 600 HP5.out.ps HP5.out.lx (Nat.le_refl _) HEND.out hkB (by omega) HNM.out
        rw [HC.out, HccW.out] at this
        exact this).mono ?_
      rintro e1 w6 ⟨he, hi, hg⟩
      subst he
      have HQ6 := Lib.hid (HP5.out.gb hm0r hrM hi hg)
      have HP6' := Lib.hid (HQ6.out.put hm0r hrM 2 ccw aw bw ccw 0 rfl)
      obtain ⟨q0, q1, q2, q3, q4⟩ := cells5 HQ6.out.pb
      have qf := frz HQ6.out.pb
      clear hi hg
      go_upto_region 13 with fail
      obtain ⟨W6, hW⟩ : ∃ W, w6.setCell ⟨M, 2, none⟩ (.int .i64 ccw) = W := ⟨_, rfl⟩
      rw [hW] at HP6' ⊢
      have HP6 := Lib.hid HP6'.out
      clear hW q0 q1 q2 q3 q4 qf HP6'
      go_wp2_with fail
      refine (show Calls Tryd.prog 68 #[.pointer (some ⟨rb, 0, none⟩), .int .i64 (-600), .int .i64 600] W6 (RsPost W6 rb (.slice (some ⟨bb, oo, none⟩) xs.length c) (.slice none 0 0) sD (.int .i64 dw)) from by
        have := number_rs W6 rb rb (.slice (some ⟨bb, oo, none⟩) xs.length c) (.slice none 0 0) sC xs (-600) 600 HP6.out.ps HP6.out.lx (Nat.le_refl _) HEND.out hkC (by omega) HNM.out
        rw [HD.out, HdW.out] at this
        exact this).mono ?_
      rintro e1 w7 ⟨he, hi, hg⟩
      subst he
      have HQ7 := Lib.hid (HP6.out.gb hm0r hrM hi hg)
      have HP7' := Lib.hid (HQ7.out.put hm0r hrM 3 dw aw bw ccw dw rfl)
      obtain ⟨q0, q1, q2, q3, q4⟩ := cells5 HQ7.out.pb
      have qf := frz HQ7.out.pb
      clear hi hg
      go_upto_region 14 with fail
      obtain ⟨W7, hW⟩ : ∃ W, w7.setCell ⟨M, 3, none⟩ (.int .i64 dw) = W := ⟨_, rfl⟩
      rw [hW] at HP7' ⊢
      have HP7 := Lib.hid HP7'.out
      clear hW q0 q1 q2 q3 q4 qf HP7'
      obtain ⟨c0, c1, c2, c3, c4, cf, hrs⟩ := HP7.out.ps.cells
      obtain ⟨q0, q1, q2, q3, q4⟩ := cells5 HP7.out.pb
      by_cases hsD : sD.e = 0
      · obtain ⟨⟨eC, d1, d2⟩, ⟨eB, c1', c2'⟩, ⟨eA, b1, b2⟩, ⟨e0, a1, a2⟩⟩ := HRNG.out hsD
        have haw : aw = a := by rw [← HaW.out, numW, if_pos eA]
        have hbw : bw = b := by rw [← HbW.out, numW, if_pos eB]
        have hccw : ccw = cc := by rw [← HccW.out, numW, if_pos eC]
        have hdw : dw = d := by rw [← HdW.out, numW, if_pos hsD]
        subst haw hbw hccw hdw
        have heb : (sD.e == 0) = true := by rw [beq_iff_eq]; exact hsD
        have HEA := Lib.hid (show True ∧ True ∧ True ∧ sD.e = 0 from ⟨trivial, trivial, trivial, hsD⟩)
        have HFP := Lib.hid (show frameP ⟨aw, bw, ccw, dw⟩ = true ↔ ¬ (bw ≤ aw ∨ dw ≤ ccw) by rw [frameP_iff]; simp only; omega)
        clear eA eB eC e0 hsD
        by_cases hfr : bw ≤ aw ∨ dw ≤ ccw
        · have hfp : frameP ⟨aw, bw, ccw, dw⟩ = false := by
            cases h : frameP ⟨aw, bw, ccw, dw⟩ with
            | false => rfl
            | true => exact absurd hfr (HFP.out.1 h)
          have hs5 : s5 = failQ sD 19 off := by rw [H5.out, if_pos hfr]
          have HSE := Lib.hid (show s5.e ≠ 0 by rw [hs5]; exact failQ_e (by decide))
          have HS5 := Lib.hid hs5
          have HFR := Lib.hid (hfp ▸ rFramed_any ⟨aw, bw, ccw, dw⟩ W7)
          clear hfr hs5 hfp
          go_wp2_with fail
          refine HFR.out.mono ?_
          rintro e1 w8 ⟨he, hb8⟩
          subst he
          have HP8 := Lib.hid (HP7.out.gb hm0r hrM (HP7.out.ps.below hb8) (gb_below hb8))
          clear hb8 c0 c1 c2 c3 c4 cf hrs q0 q1 q2 q3 q4
          go_wp2_with fail
          refine (fail_rs w8 rb _ _ sD 19 off HP8.out.ps).mono ?_
          rintro e1 w9 ⟨⟨u9, he⟩, hi, hg⟩
          subst he
          rw [← HS5.out] at hi
          have HP9 := Lib.hid (HP8.out.gb hm0r hrM hi hg)
          clear hi hg
          have hMW := (Array.getElem?_eq_some_iff.1 HP9.out.pb).1
          have hcall := nodeR_all xs HEND.out (by omega) HNM.out rb (M + 1) rb (.slice (some ⟨bb, oo, none⟩) xs.length c) (Nat.le_refl _) (by omega) 65 1 s5 [] [] w9 (.slice none 0 0) (by omega) (by omega) (by omega) hk5 (by simp) rfl (fun _ => rfl) ⟨HP9.out.ps, ⟨rfl, .inl ⟨rfl, rfl⟩⟩, Kp.refl _ _ _, HP9.out.lx, hMW⟩
          rw [H6.out] at hcall
          have HCALL := Lib.hid hcall
          clear hcall hMW
          go_wp2_with fail
          refine HCALL.out.mono ?_
          rintro e1 w10 ⟨⟨u10, he⟩, v10, a10, hs10, hl10, hn10, ha10⟩
          subst he
          have hz10 := hs10.kp.size
          have HPB10 := Lib.hid ((hs10.kp.block M (by omega) (by omega)).trans HP9.out.pb)
          have HRS10 := Lib.hid ((hs10.kp.block m0 (by omega) (by omega)).trans HP9.out.res)
          have HBW10 := Lib.hid (show Below m0 w w10 from ⟨hs10.kp.os.trans HP9.out.below.os, hs10.kp.tape.trans HP9.out.below.tape, hs10.kp.output.trans HP9.out.below.output, Nat.le_trans HP9.out.below.size hz10, fun j hj => (hs10.kp.block j (by omega) (by omega)).trans (HP9.out.below.block j hj)⟩)
          have HS10 := Lib.hid hs10
          have HA10 := Lib.hid ha10
          clear hs10 hl10 hn10 ha10 hz10
          obtain ⟨c0, c1, c2, c3, c4, cf, hrs⟩ := HS10.out.ps.cells
          have hs6 : s6 = s5 := by
            have h := H6.out
            rw [nodeQ_stay HSE.out] at h
            injection h with h _
            exact h.symm
          subst hs6
          have hr : r = ((⟨0, 0, 0, 0⟩, []), s6.e, s6.off) := by
            have h7' : s7 = s6 := by
              rw [H7.out]
              split
              · exact failQ_bad HSE.out _ _
              · rfl
            rw [HR7.out, h7', if_pos HSE.out]
          subst hr
          have he0 : (s6.e == 0) = false := by rw [beq_eq_false_iff_ne]; exact HSE.out
          have he1 : (s6.e != 0) = true := by rw [bne_iff_ne]; exact HSE.out
          obtain ⟨z0, z1, z2, z3, z4⟩ := cells5 HRS10.out
          obtain ⟨y0, y1, y2, y3, y4⟩ := same5 HRS10.out
          have zf := frz HRS10.out
          go_wp2_with fail
          go_region
          all_goals (try go_wp2_with fail)
          all_goals (try simp only [y0, y1, y2, y3, y4])
          all_goals
            refine bodyPost_ret (pat_res (w := (w10).drew) Tryd.results34 _ m0 [.int .i64 0, .int .i64 0, .int .i64 0, .int .i64 0, .slice none 0 0] rfl rfl HRS10.out _ _ rfl rfl) rfl ⟨_, rfl, Rd.none_, ?_⟩
            rw [HM0.out]
            exact ⟨HBW10.out.os, HBW10.out.tape, HBW10.out.output, HBW10.out.size, HBW10.out.block⟩
        · have hfp : frameP ⟨aw, bw, ccw, dw⟩ = true := HFP.out.2 hfr
          have hs5 : s5 = sD := by rw [H5.out, if_neg hfr]
          subst hs5
          have HFR := Lib.hid (hfp ▸ rFramed_any ⟨aw, bw, ccw, dw⟩ W7)
          clear hfr hfp
          go_wp2_with fail
          refine HFR.out.mono ?_
          rintro e1 w8 ⟨he, hb8⟩
          subst he
          have HP8 := Lib.hid (HP7.out.gb hm0r hrM (HP7.out.ps.below hb8) (gb_below hb8))
          clear hb8 c0 c1 c2 c3 c4 cf hrs q0 q1 q2 q3 q4
          have hMW := (Array.getElem?_eq_some_iff.1 HP8.out.pb).1
          have hcall := nodeR_all xs HEND.out (by omega) HNM.out rb (M + 1) rb (.slice (some ⟨bb, oo, none⟩) xs.length c) (Nat.le_refl _) (by omega) 65 1 s5 [] [] w8 (.slice none 0 0) (by omega) (by omega) (by omega) hk5 (by simp) rfl (fun _ => rfl) ⟨HP8.out.ps, ⟨rfl, .inl ⟨rfl, rfl⟩⟩, Kp.refl _ _ _, HP8.out.lx, hMW⟩
          rw [H6.out] at hcall
          have HCALL := Lib.hid hcall
          clear hcall hMW
          go_wp2_with fail
          refine HCALL.out.mono ?_
          rintro e1 w10 ⟨⟨u10, he⟩, v10, a10, hs10, hl10, hn10, ha10⟩
          subst he
          have hz10 := hs10.kp.size
          have HPB10 := Lib.hid ((hs10.kp.block M (by omega) (by omega)).trans HP8.out.pb)
          have HRS10 := Lib.hid ((hs10.kp.block m0 (by omega) (by omega)).trans HP8.out.res)
          have HBW10 := Lib.hid (show Below m0 w w10 from ⟨hs10.kp.os.trans HP8.out.below.os, hs10.kp.tape.trans HP8.out.below.tape, hs10.kp.output.trans HP8.out.below.output, Nat.le_trans HP8.out.below.size hz10, fun j hj => (hs10.kp.block j (by omega) (by omega)).trans (HP8.out.below.block j hj)⟩)
          have HS10 := Lib.hid hs10
          have HA10 := Lib.hid ha10
          clear hs10 hl10 hn10 ha10 hz10
          obtain ⟨c0, c1, c2, c3, c4, cf, hrs⟩ := HS10.out.ps.cells
          by_cases h6e : s6.e = 0
          · have ha10 := HA10.out h6e
            simp only at ha10
            subst ha10
            have he0 : (s6.e == 0) = true := by rw [beq_iff_eq]; exact h6e
            have he1 : (s6.e != 0) = false := by rw [bne_eq_false_iff_eq]; exact h6e
            obtain ⟨d0, d1, d2, d3⟩ := lx_cells2 HS10.out.lx hk6
            rw [HY.out] at d0 d1 d2 d3
            have hbb10 : bb < w10.heap.size := by
              obtain ⟨_, _, _, e, hb, _⟩ := lx_cells HS10.out.lx hk6
              injection e with e
              injection e with e
              injection e with e
              subst e
              omega
            have hkb6 : s6.k < 1000000 := by omega
            by_cases hyk : y.kind = 0
            · have hyb : (y.kind != 0) = false := by rw [bne_eq_false_iff_eq]; exact hyk
              have hr : r = ((⟨aw, bw, ccw, dw⟩, a10), 0, 0) := by
                have h7' : s7 = s6 := by rw [H7.out, if_neg (fun h => h hyk)]
                rw [HR7.out, h7', if_neg (fun h => h h6e)]
              subst hr
              obtain ⟨q0, q1, q2, q3, q4⟩ := cells5 HPB10.out
              obtain ⟨z0, z1, z2, z3, z4⟩ := cells5 HRS10.out
              have zf := frz HRS10.out
              have qf := frz HPB10.out
              have hmM : m0 ≠ M := by omega
              have hMm : M ≠ m0 := by omega
              obtain ⟨A10, c10, hv10⟩ := HS10.out.slice
              subst hv10
              have hE := rpat_end HRS10.out HPB10.out HS10.out HBW10.out (by omega) (by omega)
              have HE := Lib.hid hE
              clear hE hyk
              go_wp2_with fail
              obtain ⟨W9, hW9⟩ : ∃ W9, (((((w10.setCell ⟨M, 4, none⟩ (.slice A10 a10.length c10)).setCell ⟨m0, 0, none⟩ (.int .i64 aw)).setCell ⟨m0, 1, none⟩ (.int .i64 bw)).setCell ⟨m0, 2, none⟩ (.int .i64 ccw)).setCell ⟨m0, 3, none⟩ (.int .i64 dw)).setCell ⟨m0, 4, none⟩ (.slice A10 a10.length c10) = W9 := ⟨_, rfl⟩
              rw [hW9] at HE ⊢
              refine bodyPost_ret (pat_res (w := W9) (g := m0) (cs := [.int .i64 aw, .int .i64 bw, .int .i64 ccw, .int .i64 dw, .slice A10 a10.length c10]) Tryd.results34 _ rfl rfl HE.out.1 _ _ rfl rfl) rfl ⟨_, rfl, HE.out.2.1, ?_⟩
              rw [HM0.out]
              exact HE.out.2.2
            · have hyb : (y.kind != 0) = true := by rw [bne_iff_ne]; exact hyk
              have hr : r = ((⟨0, 0, 0, 0⟩, []), (failQ s6 5 y.off).e, (failQ s6 5 y.off).off) := by
                have h7' : s7 = failQ s6 5 y.off := by rw [H7.out, if_pos hyk]
                rw [HR7.out, h7', if_pos (failQ_e (by decide))]
              obtain ⟨s8, hs8⟩ : ∃ s8, failQ s6 5 y.off = s8 := ⟨_, rfl⟩
              have hse8 : s8.e ≠ 0 := by rw [← hs8]; exact failQ_e (by decide)
              rw [hs8] at hr
              have HS8 := Lib.hid hs8
              subst hr
              have he8 : (s8.e != 0) = true := by rw [bne_iff_ne]; exact hse8
              clear hyk hs8 hse8
              go_wp2_with fail
              refine (fail_rs w10 rb _ _ s6 5 y.off HS10.out.ps).mono ?_
              rintro e1 w11 ⟨⟨u11, he⟩, hi, hg⟩
              subst he
              rw [HS8.out] at hi
              have hbg := HS10.out.big
              have HRS11 := Lib.hid ((hg.block m0 (by omega) (fun e => by injection e; omega)).trans HRS10.out)
              have HBW11 := Lib.hid (HBW10.out.grown hg (by omega) (fun k e => by injection e; omega))
              clear c0 c1 c2 c3 c4 cf hrs d0 d1 d2 d3
              obtain ⟨c0, c1, c2, c3, c4, cf, hrs⟩ := hi.cells
              clear hi hg hbg
              obtain ⟨z0, z1, z2, z3, z4⟩ := cells5 HRS11.out
              obtain ⟨y0, y1, y2, y3, y4⟩ := same5 HRS11.out
              have zf := frz HRS11.out
              go_wp2_with fail
              go_region
              all_goals (try go_wp2_with fail)
              all_goals (try simp only [y0, y1, y2, y3, y4])
              all_goals
                refine bodyPost_ret (pat_res (w := (w11).drew) Tryd.results34 _ m0 [.int .i64 0, .int .i64 0, .int .i64 0, .int .i64 0, .slice none 0 0] rfl rfl HRS11.out _ _ rfl rfl) rfl ⟨_, rfl, Rd.none_, ?_⟩
                rw [HM0.out]
                exact ⟨HBW11.out.os, HBW11.out.tape, HBW11.out.output, HBW11.out.size, HBW11.out.block⟩
          · have HSE := Lib.hid h6e
            have hr : r = ((⟨0, 0, 0, 0⟩, []), s6.e, s6.off) := by
              have h7' : s7 = s6 := by
                rw [H7.out]
                split
                · exact failQ_bad HSE.out _ _
                · rfl
              rw [HR7.out, h7', if_pos HSE.out]
            subst hr
            have he0 : (s6.e == 0) = false := by rw [beq_eq_false_iff_ne]; exact HSE.out
            have he1 : (s6.e != 0) = true := by rw [bne_iff_ne]; exact HSE.out
            clear h6e
            obtain ⟨z0, z1, z2, z3, z4⟩ := cells5 HRS10.out
            obtain ⟨y0, y1, y2, y3, y4⟩ := same5 HRS10.out
            have zf := frz HRS10.out
            go_wp2_with fail
            go_region
            all_goals (try go_wp2_with fail)
            all_goals (try simp only [y0, y1, y2, y3, y4])
            all_goals
              refine bodyPost_ret (pat_res (w := (w10).drew) Tryd.results34 _ m0 [.int .i64 0, .int .i64 0, .int .i64 0, .int .i64 0, .slice none 0 0] rfl rfl HRS10.out _ _ rfl rfl) rfl ⟨_, rfl, Rd.none_, ?_⟩
              rw [HM0.out]
              exact ⟨HBW10.out.os, HBW10.out.tape, HBW10.out.output, HBW10.out.size, HBW10.out.block⟩
      · have heb : (sD.e == 0) = false := by rw [beq_eq_false_iff_ne]; exact hsD
        have hs5 : s5 = sD := by
          rw [H5.out]
          split
          · exact failQ_bad hsD _ _
          · rfl
        subst hs5
        have HSE := Lib.hid hsD
        clear hsD
        go_upto_region 16 with fail
        have hMW := (Array.getElem?_eq_some_iff.1 HP7.out.pb).1
        have hcall := nodeR_all xs HEND.out (by omega) HNM.out rb (M + 1) rb (.slice (some ⟨bb, oo, none⟩) xs.length c) (Nat.le_refl _) (by omega) 65 1 s5 [] [] W7 (.slice none 0 0) (by omega) (by omega) (by omega) hk5 (by simp) rfl (fun _ => rfl) ⟨HP7.out.ps, ⟨rfl, .inl ⟨rfl, rfl⟩⟩, Kp.refl _ _ _, HP7.out.lx, hMW⟩
        rw [H6.out] at hcall
        have HCALL := Lib.hid hcall
        clear hcall hMW
        go_wp2_with fail
        refine HCALL.out.mono ?_
        rintro e1 w10 ⟨⟨u10, he⟩, v10, a10, hs10, hl10, hn10, ha10⟩
        subst he
        have hz10 := hs10.kp.size
        have HPB10 := Lib.hid ((hs10.kp.block M (by omega) (by omega)).trans HP7.out.pb)
        have HRS10 := Lib.hid ((hs10.kp.block m0 (by omega) (by omega)).trans HP7.out.res)
        have HBW10 := Lib.hid (show Below m0 w w10 from ⟨hs10.kp.os.trans HP7.out.below.os, hs10.kp.tape.trans HP7.out.below.tape, hs10.kp.output.trans HP7.out.below.output, Nat.le_trans HP7.out.below.size hz10, fun j hj => (hs10.kp.block j (by omega) (by omega)).trans (HP7.out.below.block j hj)⟩)
        have HS10 := Lib.hid hs10
        have HA10 := Lib.hid ha10
        clear hs10 hl10 hn10 ha10 hz10
        clear c0 c1 c2 c3 c4 cf hrs q0 q1 q2 q3 q4
        obtain ⟨c0, c1, c2, c3, c4, cf, hrs⟩ := HS10.out.ps.cells
        have hs6 : s6 = s5 := by
          have h := H6.out
          rw [nodeQ_stay HSE.out] at h
          injection h with h _
          exact h.symm
        subst hs6
        have hr : r = ((⟨0, 0, 0, 0⟩, []), s6.e, s6.off) := by
          have h7' : s7 = s6 := by
            rw [H7.out]
            split
            · exact failQ_bad HSE.out _ _
            · rfl
          rw [HR7.out, h7', if_pos HSE.out]
        subst hr
        have he0 : (s6.e == 0) = false := by rw [beq_eq_false_iff_ne]; exact HSE.out
        have he1 : (s6.e != 0) = true := by rw [bne_iff_ne]; exact HSE.out
        obtain ⟨z0, z1, z2, z3, z4⟩ := cells5 HRS10.out
        obtain ⟨y0, y1, y2, y3, y4⟩ := same5 HRS10.out
        have zf := frz HRS10.out
        go_wp2_with fail
        go_region
        all_goals (try go_wp2_with fail)
        all_goals (try simp only [y0, y1, y2, y3, y4])
        all_goals
          refine bodyPost_ret (pat_res (w := (w10).drew) Tryd.results34 _ m0 [.int .i64 0, .int .i64 0, .int .i64 0, .int .i64 0, .slice none 0 0] rfl rfl HRS10.out _ _ rfl rfl) rfl ⟨_, rfl, Rd.none_, ?_⟩
          rw [HM0.out]
          exact ⟨HBW10.out.os, HBW10.out.tape, HBW10.out.output, HBW10.out.size, HBW10.out.block⟩

    · have hs0 : s0 = ⟨0, 5, off⟩ := by
        rw [← HS0.out, pq1, takeQ, if_neg (by rw [tryQ, HX0.out, hf]; decide), HX0.out, HOFF.out]
        rfl
      have hbad : r = ((⟨0, 0, 0, 0⟩, []), 5, off) := by
        have e0 : s0.e ≠ 0 := by rw [hs0]; show (5 : Int) ≠ 0; decide
        have a1 := HA.out
        rw [numQ_bad e0] at a1
        injection a1 with a1 a2
        subst a1 a2
        have a1 := HB.out
        rw [numQ_bad e0] at a1
        injection a1 with a1 a2
        subst a1 a2
        have a1 := HC.out
        rw [numQ_bad e0] at a1
        injection a1 with a1 a2
        subst a1 a2
        have a1 := HD.out
        rw [numQ_bad e0] at a1
        injection a1 with a1 a2
        subst a1 a2
        have a5 := H5.out
        rw [if_pos (.inl (Int.le_refl _)), failQ_bad e0] at a5
        subst a5
        have a6 := H6.out
        rw [nodeQ_stay e0] at a6
        injection a6 with a6 a7
        subst a6 a7
        have a7 := H7.out
        have a8 : s7 = s5 := by
          rw [a7]
          split
          · exact failQ_bad e0 _ _
          · rfl
        rw [HR7.out, a8, if_pos e0, hs0]
      subst hbad
      clear hs0 hf H5 H6 H7 HR7
      obtain ⟨z0, z1, z2, z3, z4⟩ := cells5 HRS2.out
      obtain ⟨y0, y1, y2, y3, y4⟩ := same5 HRS2.out
      have zf := frz HRS2.out
      rcases ht with t1 | ⟨t1, t2⟩
      all_goals
        go_wp2_with fail
        all_goals
          first
            | (exfalso; simp_all; done)
            | ((try simp only [y0, y1, y2, y3, y4])
               refine bodyPost_ret (pat_res Tryd.results34 _ m0 [.int .i64 0, .int .i64 0, .int .i64 0, .int .i64 0, .slice none 0 0] rfl rfl HRS2.out _ _ rfl rfl) rfl ⟨_, rfl, Rd.none_, ?_⟩
               rw [HM0.out]
               exact HBW2.out)
  · have heb : (er != 0) = true := by rw [bne_iff_ne]; exact her
    have hR : r = ((⟨0, 0, 0, 0⟩, []), er, at_) := by rw [← HR.out, parsePt, HSC.out]; exact if_pos her
    subst hR
    subst he
    obtain ⟨z0, z1, z2, z3, z4⟩ := cells5 HRES.out
    obtain ⟨y0, y1, y2, y3, y4⟩ := same5 HRES.out
    have zf := frz HRES.out
    clear her
    go_wp2_with fail
    try simp only [y0, y1, y2, y3, y4]
    refine bodyPost_ret (pat_res Tryd.results34 _ w.heap.size [.int .i64 0, .int .i64 0, .int .i64 0, .int .i64 0, .slice none 0 0] rfl rfl HRES.out _ _ rfl rfl) rfl ⟨_, rfl, Rd.none_, HBW.out⟩
end Go.Proofs.YtbmcfodhjibooaaDoor
