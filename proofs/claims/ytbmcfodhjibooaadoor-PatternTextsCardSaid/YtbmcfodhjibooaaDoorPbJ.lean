/-
  The contract of sawmillref21's Format.
-/
import Derived.Test.YtbmcfodhjibooaaDoorPbI
import Derived.BigQuiet
namespace Go.Proofs.YtbmcfodhjibooaaDoor
open Go.RowKit Saw Go.Sort
theorem formatT {r : Rc} {t : Tr} (ho : t.ok = true) : textPt r t = [102, 114, 97, 109, 101, 32] ++ Lib.itoa r.xa ++ [32] ++ Lib.itoa r.xb ++ [32] ++ Lib.itoa r.ya ++ [32] ++ Lib.itoa r.yb ++ [32] ++ strT t ++ [10] := by
  rw [textPt, strT_join t ho, join_app _ _ (by simp [headWords]) (words_ne t)]
  simp [headWords, Lib.join, frameW]

set_option maxRecDepth 100000 in
set_option maxHeartbeats 4000000 in
theorem rformat_any (r : Rc) (ns : List Nd) (nv : Value) (w : World) (hns : RdNd w w.heap.size nv ns) (hl : ns.length ≤ 100000) :
    Calls Tryd.prog 28 #[.agg #[.int .i64 r.xa, .int .i64 r.xb, .int .i64 r.ya, .int .i64 r.yb, nv]] w (FmtPost (formatPt r ns) w) := by
  obtain ⟨A, c, rfl, hc, hml⟩ := hns.form
  unfold maxLen at hml
  obtain ⟨q, hq⟩ : ∃ q, formatPt r ns = q := ⟨_, rfl⟩
  rw [hq]
  have HNS := Lib.hid hns
  obtain ⟨W0, hW0⟩ : ∃ W0, w.alloc (.cells #[.int .i64 r.xa, .int .i64 r.xb, .int .i64 r.ya, .int .i64 r.yb, .slice A ns.length c] 28) = W0 := ⟨_, rfl⟩
  have hb0 : Below w.heap.size w W0 := by rw [← hW0]; exact (Below.refl _ _).alloc (Nat.le_refl _) _
  have hp0 : PatAt W0 w.heap.size r (.slice A ns.length c) := by rw [← hW0]; exact heap_alloc_last w _
  obtain ⟨p0, p1, p2, p3, p4⟩ := cells5 hp0
  have HP0 := Lib.hid hp0
  have HB0 := Lib.hid hb0
  have HWF := Lib.hid (wellFormed_any r ns (.slice A ns.length c) W0 (hns.next hb0) hl)
  have hwl := wellPt_iff (r := r) (ns := ns)
  obtain ⟨m, hm⟩ : ∃ m, wellPt r ns = m := ⟨_, rfl⟩
  rw [hm] at HWF hwl
  have HM := Lib.hid hm
  have HQ := Lib.hid hq
  have HWL := Lib.hid hwl
  clear hns hb0 hp0 hq hm hwl
  go_enter Tryd.func28, Tryd.ntmps28
  go_wp2_with fail
  refine HWF.out.mono ?_
  rintro e w1 ⟨he, hb1⟩
  subst he
  have HP1 := Lib.hid ((hb1.block w.heap.size (Array.getElem?_eq_some_iff.1 HP0.out).1).trans HP0.out)
  have HB1 := Lib.hid (HB0.out.trans (hb1.mono HB0.out.size))
  clear p0 p1 p2 p3 p4 hb1
  obtain ⟨p0, p1, p2, p3, p4⟩ := cells5 HP1.out
  cases m with
  | false =>
    have hz : q = [] := by rw [← HQ.out, formatPt, if_neg (by rw [HM.out]; decide)]
    subst hz
    go_wp2_with fail
    go_ret
    exact ⟨rfl, HB1.out⟩
  | true =>
    obtain ⟨hf, hd0, hd64, hlim⟩ := HWL.out.1 rfl
    obtain ⟨t, ho, e, hdd, hln⟩ := depth_tree hd0
    have hz : q = textPt r t := by rw [← HQ.out, formatPt, if_pos HM.out, e, treeOf_nodes ho]
    obtain ⟨f1, f2, f3, f4, f5, f6⟩ := frameP_iff.1 hf
    have hlim' : ∀ n ∈ t.nodes, inLim n = true := fun n hn => hlim n (by rw [e]; exact hn)
    have HCT := Lib.hid (rtextT_any ns (.slice A ns.length c) w.heap.size hln t 0 [] w1 (HNS.out.below HB1.out) HB1.out.size ho hlim' (by rw [List.drop_zero, List.append_nil]; exact e))
    obtain ⟨st, hst⟩ : ∃ st, strT t = st := ⟨_, rfl⟩
    have HZ := Lib.hid (show q = [102, 114, 97, 109, 101, 32] ++ Lib.itoa r.xa ++ [32] ++ Lib.itoa r.xb ++ [32] ++ Lib.itoa r.ya ++ [32] ++ Lib.itoa r.yb ++ [32] ++ st ++ [10] by rw [hz, formatT ho, hst])
    have hzt : (str st).size ≤ 2540 := by
      rw [size_str, ← hst]
      have h := strT_len t hlim'
      rw [← e] at h
      omega
    unfold TextPo at HCT
    rw [hst] at HCT
    obtain ⟨j, hj⟩ : ∃ j : Nat, 0 + t.nodes.length = j := ⟨_, rfl⟩
    rw [hj] at HCT
    have g1 : (str (Lib.itoa r.xa)).size ≤ 4 := by rw [size_str]; exact itoa_len4 _ (by omega) (by omega)
    have g2 : (str (Lib.itoa r.xb)).size ≤ 4 := by rw [size_str]; exact itoa_len4 _ (by omega) (by omega)
    have g3 : (str (Lib.itoa r.ya)).size ≤ 4 := by rw [size_str]; exact itoa_len4 _ (by omega) (by omega)
    have g4 : (str (Lib.itoa r.yb)).size ≤ 4 := by rw [size_str]; exact itoa_len4 _ (by omega) (by omega)
    have D1 := Lib.hid (digits_any r.xa (by omega) (by omega))
    have D2 := Lib.hid (digits_any r.xb (by omega) (by omega))
    have D3 := Lib.hid (digits_any r.ya (by omega) (by omega))
    have D4 := Lib.hid (digits_any r.yb (by omega) (by omega))
    clear hz hd0 hd64 hlim hlim' ho e hdd hln hf hst hj f1 f2 f3 f4 f5 f6
    go_wp2_with fail
    refine HCT.out.mono ?_
    rintro e w2 ⟨he, hb2⟩
    subst he
    have HP2 := Lib.hid ((hb2.block w.heap.size (Array.getElem?_eq_some_iff.1 HP1.out).1).trans HP1.out)
    have HB2 := Lib.hid (HB1.out.trans (hb2.mono HB1.out.size))
    clear p0 p1 p2 p3 p4 hb2
    obtain ⟨p0, p1, p2, p3, p4⟩ := cells5 HP2.out
    obtain ⟨d1, hd1⟩ : ∃ d, str (Lib.itoa r.xa) = d := ⟨_, rfl⟩
    obtain ⟨d2, hd2⟩ : ∃ d, str (Lib.itoa r.xb) = d := ⟨_, rfl⟩
    obtain ⟨d3, hd3⟩ : ∃ d, str (Lib.itoa r.ya) = d := ⟨_, rfl⟩
    obtain ⟨d4, hd4⟩ : ∃ d, str (Lib.itoa r.yb) = d := ⟨_, rfl⟩
    have HD := Lib.hid (And.intro hd1 (And.intro hd2 (And.intro hd3 hd4)))
    simp only [hd1] at D1 g1
    simp only [hd2] at D2 g2
    simp only [hd3] at D3 g3
    simp only [hd4] at D4 g4
    have k0 : ¬ 9223372036854775807 < 6 + d1.size := by omega
    have k1 : ¬ 9223372036854775807 < 6 + d1.size + 1 := by omega
    have k2 : ¬ 9223372036854775807 < 6 + d1.size + 1 + d2.size := by omega
    have k3 : ¬ 9223372036854775807 < 6 + d1.size + 1 + d2.size + 1 := by omega
    have k4 : ¬ 9223372036854775807 < 6 + d1.size + 1 + d2.size + 1 + d3.size := by omega
    have k5 : ¬ 9223372036854775807 < 6 + d1.size + 1 + d2.size + 1 + d3.size + 1 := by omega
    have k6 : ¬ 9223372036854775807 < 6 + d1.size + 1 + d2.size + 1 + d3.size + 1 + d4.size := by omega
    have k7 : ¬ 9223372036854775807 < 6 + d1.size + 1 + d2.size + 1 + d3.size + 1 + d4.size + 1 := by omega
    have k8 : ¬ 9223372036854775807 < 6 + d1.size + 1 + d2.size + 1 + d3.size + 1 + d4.size + 1 + (str st).size := by omega
    have k9 : ¬ 9223372036854775807 < 6 + d1.size + 1 + d2.size + 1 + d3.size + 1 + d4.size + 1 + (str st).size + 1 := by omega
    have Q1 := Lib.hid (show ∀ n, Calls Tryd.prog 61 #[.int .i64 r.xa] (w2.drewN n) fun e w'' => e = .returned (.string d1) ∧ ∃ m, w'' = w2.drewN m from fun n => Calls.quiet_of_same ((D1.out _).mono fun _ _ ⟨x, y⟩ => ⟨x, y.symm⟩))
    have Q2 := Lib.hid (show ∀ n, Calls Tryd.prog 61 #[.int .i64 r.xb] (w2.drewN n) fun e w'' => e = .returned (.string d2) ∧ ∃ m, w'' = w2.drewN m from fun n => Calls.quiet_of_same ((D2.out _).mono fun _ _ ⟨x, y⟩ => ⟨x, y.symm⟩))
    have Q3 := Lib.hid (show ∀ n, Calls Tryd.prog 61 #[.int .i64 r.ya] (w2.drewN n) fun e w'' => e = .returned (.string d3) ∧ ∃ m, w'' = w2.drewN m from fun n => Calls.quiet_of_same ((D3.out _).mono fun _ _ ⟨x, y⟩ => ⟨x, y.symm⟩))
    have Q4 := Lib.hid (show ∀ n, Calls Tryd.prog 61 #[.int .i64 r.yb] (w2.drewN n) fun e w'' => e = .returned (.string d4) ∧ ∃ m, w'' = w2.drewN m from fun n => Calls.quiet_of_same ((D4.out _).mono fun _ _ ⟨x, y⟩ => ⟨x, y.symm⟩))
    clear hd1 hd2 hd3 hd4 D1 D2 D3 D4
    go_wp2_with fail
    go_quiet ((go_at_call 61; first | with_reducible exact Q1.out _ | with_reducible exact Q2.out _ | with_reducible exact Q3.out _ | with_reducible exact Q4.out _))
    go_wp2_with fail
    have hs : (⟨#[102, 114, 97, 109, 101, 32]⟩ : ByteArray) ++ d1 ++ ⟨#[32]⟩ ++ d2 ++ ⟨#[32]⟩ ++ d3 ++ ⟨#[32]⟩ ++ d4 ++ ⟨#[32]⟩ ++ str st ++ ⟨#[10]⟩ = str q := str_fin3 (by rw [HZ.out, ← HD.out.1, ← HD.out.2.1, ← HD.out.2.2.1, ← HD.out.2.2.2]; simp only [bts_append, bts_str]; rfl)
    rw [hs]
    go_ret
    exact ⟨rfl, below_drewNn HB2.out nq⟩
end Go.Proofs.YtbmcfodhjibooaaDoor
