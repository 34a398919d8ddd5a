/-
  The law's function few; PatternRows walked.
-/
import Derived.Test.YtbmcfodhjibooaaDoorPsB
import Derived.Test.YtbmcfodhjibooaaDoorPbE
namespace Go.Proofs.YtbmcfodhjibooaaDoor
open Go.RowKit Saw Go.Sort
def PtsAt (W : World) (N : Nat) (x : Rc) (ax kf : Int) (A : Option Addr) (n c : Nat) (A2 : Option Addr) (n2 c2 : Nat) : Prop := W.heap[N]? = some (.cells #[.int .i64 x.xa, .int .i64 x.xb, .int .i64 x.ya, .int .i64 x.yb, .int .i64 ax, .int .i64 kf, .slice A n c, .slice A2 n2 c2] 48 (0, 0))
theorem cells8 {w : World} {N : Nat} {a b c d e f g h : Value} {t : TypeId} (hh : w.heap[N]? = some (.cells #[a, b, c, d, e, f, g, h] t (0, 0))) : w.cell? ⟨N, 0, none⟩ = some a ∧ w.cell? ⟨N, 1, none⟩ = some b ∧ w.cell? ⟨N, 2, none⟩ = some c ∧ w.cell? ⟨N, 3, none⟩ = some d ∧ w.cell? ⟨N, 4, none⟩ = some e ∧ w.cell? ⟨N, 5, none⟩ = some f ∧ w.cell? ⟨N, 6, none⟩ = some g ∧ w.cell? ⟨N, 7, none⟩ = some h :=
  ⟨cell_of_box hh rfl, cell_of_box hh rfl, cell_of_box hh rfl, cell_of_box hh rfl, cell_of_box hh rfl, cell_of_box hh rfl, cell_of_box hh rfl, cell_of_box hh rfl⟩
def FewPost (sp : List (Int × Int)) (ps : List (List Nd)) (w : World) (e : Ending) (w' : World) : Prop := (∃ q : Bool, e = .returned (.bool q) ∧ (q = true → sp.length ≤ 80 ∧ ps.length ≤ 80 ∧ ∀ x ∈ ps, x.length ≤ 140)) ∧ Below w.heap.size w w'

set_option maxRecDepth 100000 in
set_option maxHeartbeats 2000000 in
theorem few_any (x : Rc) (ax kf : Int) (sp : List (Int × Int)) (A : Option Addr) (c : Nat) (ps : List (List Nd)) (A2 : Option Addr) (c2 : Nat) (w : World) (h : PtsArg w sp A c ps A2 c2) :
    Calls Tryd.prog 23 #[.agg #[.int .i64 x.xa, .int .i64 x.xb, .int .i64 x.ya, .int .i64 x.yb, .int .i64 ax, .int .i64 kf, .slice A sp.length c, .slice A2 ps.length c2]] w (FewPost sp ps w) := by
  obtain ⟨hsp, hps⟩ := h
  obtain ⟨_, _, _, _, hml⟩ := hsp.form
  obtain ⟨_, _, _, _, hml2⟩ := hps.form
  unfold maxLen at hml hml2
  have HPS := Lib.hid hps
  obtain ⟨W0, hW0⟩ : ∃ W0, w.alloc (.cells #[.int .i64 x.xa, .int .i64 x.xb, .int .i64 x.ya, .int .i64 x.yb, .int .i64 ax, .int .i64 kf, .slice A sp.length c, .slice A2 ps.length c2] 48) = W0 := ⟨_, rfl⟩
  have hb0 : Below w.heap.size w W0 := by rw [← hW0]; exact bel_alloc (Below.refl _ _)
  have hp0 : PtsAt W0 w.heap.size x ax kf A sp.length c A2 ps.length c2 := by rw [← hW0]; exact heap_alloc_last w _
  have HB0 := Lib.hid hb0
  have HP0 := Lib.hid hp0
  obtain ⟨p0, p1, p2, p3, p4, p5, p6, p7⟩ := cells8 hp0
  obtain ⟨ls, hls⟩ : ∃ ls, sp.length = ls := ⟨_, rfl⟩
  obtain ⟨lp, hlp⟩ : ∃ lp, ps.length = lp := ⟨_, rfl⟩
  have HLS := Lib.hid hls
  have HLP := Lib.hid hlp
  unfold PtsAt at HP0
  rw [hls, hlp] at HP0
  rw [hls] at p6 hW0 hml ⊢
  rw [hlp] at p7 HPS hW0 hml2 ⊢
  clear hls hlp hb0 hp0 hsp hps
  go_enter Tryd.func23, Tryd.ntmps23
  go_wp2_with fail
  go_loopw [3] (fun iv wr => ∃ k : Nat, iv = .int .i64 k ∧ k ≤ lp ∧ Below W0.heap.size W0 wr ∧ ∀ y ∈ ps.take k, y.length ≤ 140) (fun i _ => lp - (intOf i).toNat)
  case atStart => exact ⟨0, rfl, by omega, Below.refl _ _, by simp⟩
  case round =>
    obtain ⟨k, rfl, hkl, hbw, htk⟩ := hrel
    have HBW := Lib.hid hbw
    have HTK := Lib.hid htk
    have hpw := (hbw.block w.heap.size (Array.getElem?_eq_some_iff.1 HP0.out).1).trans HP0.out
    clear p0 p1 p2 p3 p4 p5 p6 p7 hbw htk
    obtain ⟨p0, p1, p2, p3, p4, p5, p6, p7⟩ := cells8 hpw
    clear hpw
    by_cases hlt : k < lp
    · obtain ⟨y, hy⟩ : ∃ y, ps[k]? = some y := ⟨_, List.getElem?_eq_getElem (by rw [HLP.out]; exact hlt)⟩
      obtain ⟨b, off, A1, c1, rfl, hb, d0, _⟩ := (HPS.out.below (HB0.out.trans (HBW.out.mono HB0.out.size))).at_ hy
      have hbw : b < wr.heap.size := Nat.lt_of_lt_of_le hb (Nat.le_trans HB0.out.size HBW.out.size)
      have HY := Lib.hid hy
      have f1 : (0 : Int) ≤ (k : Int) := by omega
      have f2 : (k : Int) < (lp : Int) := by omega
      obtain ⟨ly, hly⟩ : ∃ ly, y.length = ly := ⟨_, rfl⟩
      rw [hly] at d0
      have HLY := Lib.hid hly
      clear hy hb hly
      by_cases h140 : 140 < (ly : Int)
      · go_wp2_with fail
        go_ret
        exact ⟨⟨false, rfl, nofun⟩, HB0.out.trans (HBW.out.mono HB0.out.size)⟩
      · have HT1 := Lib.hid (show ∀ y ∈ ps.take (k + 1), y.length ≤ 140 by
          intro z hz
          rw [List.take_add_one, HY.out, List.mem_append] at hz
          rcases hz with hz | hz
          · exact HTK.out z hz
          · have hz : z = y := by simpa using hz
            subst hz
            rw [HLY.out]
            omega)
        go_wp2_with fail
        exact ⟨⟨k + 1, by go_num, by omega, HBW.out, HT1.out⟩, by simp [intOf]; omega⟩
    · have HAL := Lib.hid (show ∀ y ∈ ps, y.length ≤ 140 by
        have hke : k = ps.length := by rw [HLP.out]; omega
        rw [← List.take_length (l := ps), ← hke]
        exact HTK.out)
      by_cases h8 : (ls : Int) ≤ 80
      · by_cases h9 : (lp : Int) ≤ 80
        · go_wp2_with fail
          go_ret
          exact ⟨⟨true, rfl, fun _ => ⟨by rw [HLS.out]; omega, by rw [HLP.out]; omega, HAL.out⟩⟩, HB0.out.trans (HBW.out.mono HB0.out.size)⟩
        · go_wp2_with fail
          go_ret
          exact ⟨⟨false, rfl, nofun⟩, HB0.out.trans (HBW.out.mono HB0.out.size)⟩
      · go_wp2_with fail
        go_ret
        exact ⟨⟨false, rfl, nofun⟩, HB0.out.trans (HBW.out.mono HB0.out.size)⟩

set_option maxRecDepth 100000 in
set_option maxHeartbeats 2000000 in
theorem patternRows_walk (x : Rc) (ax kf : Int) (sp : List (Int × Int)) (A : Option Addr) (c : Nat) (ps : List (List Nd)) (A2 : Option Addr) (c2 : Nat) (w : World) (h : PtsArg w sp A c ps A2 c2) (hv : VarsX w) :
    Calls Tryd.prog 5 #[.agg #[.int .i64 x.xa, .int .i64 x.xb, .int .i64 x.ya, .int .i64 x.yb, .int .i64 ax, .int .i64 kf, .slice A sp.length c, .slice A2 ps.length c2]] w (LawX w) := by
  have HPA := Lib.hid h
  have HV := Lib.hid hv
  obtain ⟨hsp, hps⟩ := h
  have HF := Lib.hid (fun W (hb : Below w.heap.size w W) => few_any x ax kf sp A c ps A2 c2 W ⟨hsp.next hb, hps.next hb⟩)
  have HR1 := Lib.hid (fun W (hb : Below w.heap.size w W) h1 h2 h3 => row_any x ax kf sp ps (.slice A sp.length c) (.slice A2 ps.length c2) W (hsp.next hb) (hps.next hb) h1 h2 h3)
  have HR2 := Lib.hid (fun W (hb : Below w.heap.size w W) h1 h2 h3 => rrow_any x ax kf sp ps (.slice A sp.length c) (.slice A2 ps.length c2) W (hsp.next hb) (hps.next hb) h1 h2 h3)
  obtain ⟨_, _, _, _, hml⟩ := hsp.form
  obtain ⟨_, _, _, _, hml2⟩ := hps.form
  unfold maxLen at hml hml2
  obtain ⟨W0, hW0⟩ : ∃ W0, w.alloc (.cells #[.int .i64 x.xa, .int .i64 x.xb, .int .i64 x.ya, .int .i64 x.yb, .int .i64 ax, .int .i64 kf, .slice A sp.length c, .slice A2 ps.length c2] 48) = W0 := ⟨_, rfl⟩
  have hb0 : Below w.heap.size w W0 := by rw [← hW0]; exact bel_alloc (Below.refl _ _)
  have hp0 : PtsAt W0 w.heap.size x ax kf A sp.length c A2 ps.length c2 := by rw [← hW0]; exact heap_alloc_last w _
  have HB0 := Lib.hid hb0
  have HP0 := Lib.hid hp0
  obtain ⟨p0, p1, p2, p3, p4, p5, p6, p7⟩ := cells8 hp0
  clear hb0 hp0 hsp hps hv
  go_enter Tryd.func5, Tryd.ntmps5
  go_wp2_with fail
  refine (HF.out _ HB0.out).mono ?_
  rintro e w1 ⟨⟨q, he, hq⟩, hb1⟩
  subst he
  have HQ := Lib.hid hq
  have HP1 := Lib.hid ((hb1.block w.heap.size (Array.getElem?_eq_some_iff.1 HP0.out).1).trans HP0.out)
  have HB1 := Lib.hid (bel_call HB0.out hb1)
  clear hb1 hq p0 p1 p2 p3 p4 p5 p6 p7
  cases q with
  | false =>
    go_wp2_with fail
    refine (awake_any w1 (HV.out.next HB1.out)).mono ?_
    rintro e w2 ⟨he, hb2⟩
    subst he
    have HB2 := Lib.hid (bel_call HB1.out hb2)
    clear hb2
    go_wp2_with fail
    go_ret
    exact ⟨rfl, HB2.out⟩
  | true =>
    have HC := Lib.hid (HQ.out rfl)
    obtain ⟨p0, p1, p2, p3, p4, p5, p6, p7⟩ := cells8 HP1.out
    obtain ⟨R, hR⟩ : ∃ R, rowP x ax kf sp ps = R := ⟨_, rfl⟩
    have HRR := Lib.hid hR
    clear HQ hR
    go_wp2_with fail
    refine (HR1.out _ HB1.out (by have := HC.out.1; omega) (fun y hy => by have := HC.out.2.2 y hy; omega) (by have := HC.out.2.1; omega)).mono ?_
    rintro e w2 ⟨v2, he, hn2, hb2⟩
    rw [HRR.out] at he hn2
    subst he
    obtain ⟨A3, c3, rfl, _, _⟩ := hn2.form
    have HN2 := Lib.hid hn2
    have HP2 := Lib.hid ((hb2.block w.heap.size (Array.getElem?_eq_some_iff.1 HP1.out).1).trans HP1.out)
    have HB2 := Lib.hid (bel_call HB1.out hb2)
    clear hb2 hn2 p0 p1 p2 p3 p4 p5 p6 p7
    obtain ⟨p0, p1, p2, p3, p4, p5, p6, p7⟩ := cells8 HP2.out
    go_wp2_with fail
    refine (HR2.out _ HB2.out (by have := HC.out.1; omega) (fun y hy => by have := HC.out.2.2 y hy; omega) (by have := HC.out.2.1; omega)).mono ?_
    rintro e w3 ⟨v3, he, hn3, hb3⟩
    rw [HRR.out] at he hn3
    subst he
    obtain ⟨A4, c4, rfl, _, _⟩ := hn3.form
    have HN3 := Lib.hid hn3
    have HN4 := Lib.hid (HN2.out.next hb3)
    have HB3 := Lib.hid (bel_call HB2.out hb3)
    clear hb3 hn3 p0 p1 p2 p3 p4 p5 p6 p7
    go_wp2_with fail
    refine (sameNodes_any R.1 R.1 _ _ w3 HN4.out HN3.out).mono ?_
    rintro e w4 ⟨he, hb4⟩
    rw [decide_eq_true rfl] at he
    subst he
    have HB4 := Lib.hid (bel_call HB3.out hb4)
    clear hb4
    go_wp2_with fail
    refine (awake_any w4 (HV.out.next HB4.out)).mono ?_
    rintro e w5 ⟨he, hb5⟩
    subst he
    have HB5 := Lib.hid (bel_call HB4.out hb5)
    clear hb5
    go_wp2_with fail
    go_ret
    exact ⟨rfl, HB5.out⟩
end Go.Proofs.YtbmcfodhjibooaaDoor
