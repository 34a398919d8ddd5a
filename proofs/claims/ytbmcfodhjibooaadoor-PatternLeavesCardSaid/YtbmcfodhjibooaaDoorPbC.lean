/-
  The contracts of the comparisons of patterns, leaves and rectangles (sawmillref21, sawmilllaw21).
-/
import Derived.Test.YtbmcfodhjibooaaDoorPaI
namespace Go.Proofs.YtbmcfodhjibooaaDoor
open Go.RowKit Saw Go.Sort

set_option maxRecDepth 100000 in
set_option maxHeartbeats 2000000 in
theorem rSame_any (r s : Rc) (a b : List Nd) (va vb : Value) (w : World) (ha : RdNd w w.heap.size va a) (hb : RdNd w w.heap.size vb b) :
    Calls Tryd.prog 30 #[.agg #[.int .i64 r.xa, .int .i64 r.xb, .int .i64 r.ya, .int .i64 r.yb, va], .agg #[.int .i64 s.xa, .int .i64 s.xb, .int .i64 s.ya, .int .i64 s.yb, vb]] w (BoolB (decide (r = s ∧ a = b)) w) := by
  obtain ⟨A, c, rfl, _, hml⟩ := ha.form
  obtain ⟨B, d, rfl, _, hml2⟩ := hb.form
  unfold maxLen at hml hml2
  obtain ⟨la, hla⟩ : ∃ la, a.length = la := ⟨_, rfl⟩
  obtain ⟨lb, hlb⟩ : ∃ lb, b.length = lb := ⟨_, rfl⟩
  obtain ⟨q, hq⟩ : ∃ q, decide (r = s ∧ a = b) = q := ⟨_, rfl⟩
  rw [hq]
  have HQ := Lib.hid hq
  rw [hla] at ha hml ⊢
  rw [hlb] at hb hml2 ⊢
  have HLA := Lib.hid hla
  have HLB := Lib.hid hlb
  have HA := Lib.hid ha
  have HB := Lib.hid hb
  clear ha hb hq hla hlb
  obtain ⟨W0, hW0⟩ : ∃ W0, (w.alloc (.cells #[.int .i64 r.xa, .int .i64 r.xb, .int .i64 r.ya, .int .i64 r.yb, .slice A la c] 28)).alloc (.cells #[.int .i64 s.xa, .int .i64 s.xb, .int .i64 s.ya, .int .i64 s.yb, .slice B lb d] 28) = W0 := ⟨_, rfl⟩
  have HW0 := Lib.hid hW0
  have HB0 := Lib.hid (show Below w.heap.size w W0 by rw [← hW0]; repeat (first | exact Below.refl _ _ | apply bel_alloc))
  have G0 := Lib.hid (show W0.heap[w.heap.size]? = some (.cells #[.int .i64 r.xa, .int .i64 r.xb, .int .i64 r.ya, .int .i64 r.yb, .slice A la c] 28 (0, 0)) by rw [← hW0]; exact hpA (heap_alloc_last w _) _)
  have G1 := Lib.hid (show W0.heap[w.heap.size + 1]? = some (.cells #[.int .i64 s.xa, .int .i64 s.xb, .int .i64 s.ya, .int .i64 s.yb, .slice B lb d] 28 (0, 0)) by
    rw [← hW0]
    have h := heap_alloc_last (w.alloc (.cells #[.int .i64 r.xa, .int .i64 r.xb, .int .i64 r.ya, .int .i64 r.yb, .slice A la c] 28)) (.cells #[.int .i64 s.xa, .int .i64 s.xb, .int .i64 s.ya, .int .i64 s.yb, .slice B lb d] 28)
    rw [World.size_alloc] at h
    exact h)
  clear hW0
  obtain ⟨r1, r2, r3, r4⟩ := r
  obtain ⟨s1, s2, s3, s4⟩ := s
  by_cases hrs : r1 = s1 ∧ r2 = s2 ∧ r3 = s3 ∧ r4 = s4
  · obtain ⟨rfl, rfl, rfl, rfl⟩ := hrs
    by_cases hl : la = lb
    · subst hl
      go_enter Tryd.func30, Tryd.ntmps30
      go_wp2_with fail
      rw [HW0.out]
      go_loopw [5] (fun i wr => ∃ k : Nat, k ≤ la ∧ i = .int .i64 k ∧ Below W0.heap.size W0 wr ∧ a.take k = b.take k) (fun i _ => la - (intOf i).toNat)
      case atStart => exact ⟨0, by omega, rfl, Below.refl _ _, rfl⟩
      case round =>
        obtain ⟨k, hk, rfl, hb, htk⟩ := hrel
        have HB5 := Lib.hid hb
        have HTK := Lib.hid htk
        have u1 : wr.cell? ⟨w.heap.size, 4, none⟩ = some (.slice A la c) := (hb.cell (p := ⟨w.heap.size, 4, none⟩) (Array.getElem?_eq_some_iff.1 G0.out).1).trans (cell_of_box G0.out rfl)
        have u2 : wr.cell? ⟨w.heap.size + 1, 4, none⟩ = some (.slice B la d) := (hb.cell (p := ⟨w.heap.size + 1, 4, none⟩) (Array.getElem?_eq_some_iff.1 G1.out).1).trans (cell_of_box G1.out rfl)
        have hsz := hb.size
        clear hb htk
        by_cases hlt : k < la
        · obtain ⟨⟨x1, x2⟩, hx⟩ : ∃ n, a[k]? = some n := ⟨_, List.getElem?_eq_getElem (by rw [HLA.out]; exact hlt)⟩
          obtain ⟨⟨y1, y2⟩, hy⟩ : ∃ n, b[k]? = some n := ⟨_, List.getElem?_eq_getElem (by rw [HLB.out]; exact hlt)⟩
          have hbw := HB0.out.trans (HB5.out.mono HB0.out.size)
          obtain ⟨ba, oa, hA, hba, qa, qa2⟩ := RdNd.at_ (HA.out.below hbw) hx
          obtain ⟨bb, ob, hB, hbb, qb, qb2⟩ := RdNd.at_ (HB.out.below hbw) hy
          subst hA hB
          simp only at qa qa2 qb qb2
          have HX := Lib.hid hx
          have HY := Lib.hid hy
          have f1 : (0 : Int) ≤ (k : Int) := by omega
          have f2 : (k : Int) < (la : Int) := by omega
          clear hx hy hbw
          have hta : a.take (k + 1) = a.take k ++ [⟨x1, x2⟩] := by rw [List.take_add_one, HX.out]; rfl
          have htb : b.take (k + 1) = b.take k ++ [⟨y1, y2⟩] := by rw [List.take_add_one, HY.out]; rfl
          have HTA := Lib.hid hta
          have HTB := Lib.hid htb
          clear hta htb
          by_cases hxy : x1 = y1 ∧ x2 = y2
          · obtain ⟨rfl, rfl⟩ := hxy
            go_wp2_with fail
            go_quiet (fail)
            go_wp2_with fail
            exact ⟨⟨k + 1, by omega, by go_num, below_drewNn HB5.out _, by rw [HTA.out, HTB.out, HTK.out]⟩, by simp [intOf]; omega⟩
          · have HXY := Lib.hid (show q = false by
              rw [← HQ.out, decide_eq_false_iff_not]
              rintro ⟨_, hab⟩
              subst hab
              rw [HX.out] at HY
              have h := HY.out
              injection h with h
              injection h with h1 h2
              exact hxy ⟨h1, h2⟩)
            have hcc : (¬ x1 = y1) ∨ (x1 = y1 ∧ ¬ x2 = y2) := by omega
            clear hxy
            rcases hcc with hcc | ⟨rfl, hcc⟩
            all_goals
              go_wp2_with fail
              go_quiet (fail)
              go_wp2_with fail
              go_ret
              refine ⟨ret_bool ?_, HB0.out.trans ((below_drewNn HB5.out _).mono HB0.out.size)⟩
              rw [HXY.out]
        · have hkm : k = la := by omega
          subst hkm
          have HZ := Lib.hid (show q = true by
            rw [← HQ.out, decide_eq_true_eq]
            refine ⟨by first | trivial | rfl, ?_⟩
            have h := HTK.out
            rw [List.take_of_length_le (by rw [HLA.out]; omega), List.take_of_length_le (by rw [HLB.out]; omega)] at h
            exact h)
          go_wp2_with fail
          go_ret
          exact ⟨ret_bool HZ.out.symm, HB0.out.trans (HB5.out.mono HB0.out.size)⟩
    · have HZ := Lib.hid (show q = false by
        rw [← HQ.out, decide_eq_false_iff_not]
        rintro ⟨_, hab⟩
        exact hl (by rw [← HLA.out, ← HLB.out, hab]))
      have hb1 : ((la : Int) != lb) = true := by rw [bne_iff_ne]; omega
      clear hl
      go_enter Tryd.func30, Tryd.ntmps30
      go_wp2_with fail
      rw [HW0.out]
      go_ret
      exact ⟨ret_bool HZ.out.symm, HB0.out⟩
  · have HZ := Lib.hid (show q = false by
      rw [← HQ.out, decide_eq_false_iff_not]
      rintro ⟨hab, _⟩
      simp only [Rc.mk.injEq] at hab
      exact hrs hab)
    go_enter Tryd.func30, Tryd.ntmps30
    go_wp2_with fail
    all_goals
      first
        | (exfalso; apply hrs; simp_all; done)
        | (go_ret
           exact ⟨ret_bool HZ.out.symm, by repeat (first | exact Below.refl _ _ | apply bel_alloc)⟩)
end Go.Proofs.YtbmcfodhjibooaaDoor
