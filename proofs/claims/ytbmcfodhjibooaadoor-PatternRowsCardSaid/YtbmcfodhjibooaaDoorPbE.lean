/-
  The contract of sawmillref21's Row.
-/
import Derived.Test.YtbmcfodhjibooaaDoorPbB
import Derived.Test.YtbmcfodhjibooaaDoorPaS
import Derived.Deep.Cut
namespace Go.Proofs.YtbmcfodhjibooaaDoor
open Go.RowKit Saw Go.Sort
/-- How the reference's Row stands in a round. -/
structure RoSt (w W : World) (K : Nat) (lo hi : Int) (ov : Value) (acc : List Nd) : Prop where
  own : W.ownsRow (K + 1) 64 2 ov acc.length (ndCells acc)
  box : W.heap[K]? = some (.cells #[.int .i64 lo, .int .i64 hi] 23 (0, 0))
  bel : Below w.heap.size w W
  wK : w.heap.size ≤ K
theorem RoSt.kK {w W : World} {K : Nat} {lo hi : Int} {ov : Value} {acc : List Nd} (h : RoSt w W K lo hi ov acc) : K < W.heap.size := (Array.getElem?_eq_some_iff.1 h.box).1
theorem RoSt.to {w W W5 : World} {K : Nat} {lo hi : Int} {ov v : Value} {acc ys : List Nd} {n : Nat} {o : Obj} (h : RoSt w W K lo hi ov acc) (hg : (W.alloc o).grownBy W5 ov.ownBlock) (hn : n = acc.length + ys.length) {cs : List Value} (hc : cs = ndCells ys) (hown : W5.ownsRow (K + 1) 64 2 v n (ndCells acc ++ cs)) : RoSt w W5 K lo hi v (acc ++ ys) := by
  have k1 := h.kK
  have k2 := h.wK
  have hs : (W.alloc o).heap.size = W.heap.size + 1 := World.size_alloc W o
  refine ⟨?_, (hg.block K (by omega) (fun e => by have := (own_at h.own e.symm).1; omega)).trans (hpA h.box o), (h.bel.trans ((bel_alloc (ob := o) (Below.refl W.heap.size W)).mono h.bel.size)).grown hg (by omega) (fun k e => by have := (own_at h.own e).1; omega), k2⟩
  rw [List.length_append, ndCells_app, ← hn, ← hc]
  exact hown
theorem RoSt.to0 {w W W5 : World} {K : Nat} {lo hi : Int} {ov v : Value} {acc ys : List Nd} {n : Nat} (h : RoSt w W K lo hi ov acc) (hg : W.grownBy W5 ov.ownBlock) (hn : n = acc.length + ys.length) {cs : List Value} (hc : cs = ndCells ys) (hown : W5.ownsRow (K + 1) 64 2 v n (ndCells acc ++ cs)) : RoSt w W5 K lo hi v (acc ++ ys) := by
  have k1 := h.kK
  have k2 := h.wK
  refine ⟨?_, (hg.block K (by omega) (fun e => by have := (own_at h.own e.symm).1; omega)).trans h.box, h.bel.grown hg (by omega) (fun k e => by have := (own_at h.own e).1; omega), k2⟩
  rw [List.length_append, ndCells_app, ← hn, ← hc]
  exact hown
theorem RoSt.drewN {w W : World} {K : Nat} {lo hi : Int} {ov : Value} {acc : List Nd} (h : RoSt w W K lo hi ov acc) (n : Nat) : RoSt w (W.drewN n) K lo hi ov acc := ⟨h.own, h.box, below_drewNn h.bel n, h.wK⟩
theorem RdSp.at2 {w : World} {B b off n c : Nat} {l : List (Int × Int)} (h : RdSp w B (.slice (some ⟨b, off, none⟩) n c) l) {i : Nat} {x : Int × Int} (hx : l[i]? = some x) : w.cell? ⟨b, off + i * 2, none⟩ = some (.int .i64 x.1) ∧ w.cell? ⟨b, off + i * 2 + 1, none⟩ = some (.int .i64 x.2) := by
  obtain ⟨b', off', e, _, d0, d1⟩ := h.at_ hx
  injection e with e
  injection e with e1 e2
  subst e1 e2
  exact ⟨d0, d1⟩
theorem nd_memL (l : List Value) (h : ∃ k, l = ndCells k) : ∀ u ∈ l, u.oneCell' = true := by
  obtain ⟨k, rfl⟩ := h
  exact nd_mem k

set_option maxRecDepth 100000 in
set_option maxHeartbeats 8000000 in
theorem rrow_any (r : Rc) (axis kerf : Int) (sp : List (Int × Int)) (ps : List (List Nd)) (sv pv : Value) (w : World) (hsp : RdSp w w.heap.size sv sp) (hps : RdPs w w.heap.size pv ps) (h1 : sp.length ≤ 100) (h2 : ∀ x ∈ ps, x.length ≤ 200) (_h3 : ps.length ≤ 100) :
    Calls Tryd.prog 25 #[.agg #[.int .i64 r.xa, .int .i64 r.xb, .int .i64 r.ya, .int .i64 r.yb], .int .i64 axis, .int .i64 kerf, sv, pv] w (RowPost w (rowP r axis kerf sp ps)) := by
  obtain ⟨A, c, rfl, hc, hml⟩ := hsp.form
  obtain ⟨A2, c2, rfl, hc2, hml2⟩ := hps.form
  unfold maxLen at hml hml2
  obtain ⟨q, hq⟩ : ∃ q, rowP r axis kerf sp ps = q := ⟨_, rfl⟩
  rw [hq]
  unfold rowP at hq
  have HQ := Lib.hid hq
  have HSP := Lib.hid hsp
  have HPS := Lib.hid hps
  have HPL := Lib.hid h2
  have HB := Lib.hid (bel_alloc (ob := .cells #[.int .i64 r.xa, .int .i64 r.xb, .int .i64 r.ya, .int .i64 r.yb] 25) (Below.refl w.heap.size w))
  clear hq hsp hps h2
  obtain ⟨fr, hfr⟩ : ∃ fr, frameP r = fr := ⟨_, rfl⟩
  have HIF := Lib.hid (fun W => hfr ▸ rFramed_any r W)
  have HRC := Lib.hid (heap_alloc_last w (.cells #[.int .i64 r.xa, .int .i64 r.xb, .int .i64 r.ya, .int .i64 r.yb] 25))
  have hax : (ripP axis = false ∧ (axis != 2) = true ∧ (axis != 3) = true) ∨ (ripP axis = true ∧ (axis != 2) = false ∧ (axis == 3) = false ∧ axis = 2) ∨ (ripP axis = true ∧ (axis != 2) = true ∧ (axis != 3) = false ∧ (axis == 3) = true ∧ axis = 3) := by
    by_cases e2 : axis = 2
    · subst e2; right; left; decide
    · by_cases e3 : axis = 3
      · subst e3; right; right; decide
      · left
        refine ⟨?_, by rw [bne_iff_ne]; exact e2, by rw [bne_iff_ne]; exact e3⟩
        unfold ripP
        rw [Bool.or_eq_false_iff, beq_eq_false_iff_ne, beq_eq_false_iff_ne]
        exact ⟨e2, e3⟩
  have HAX := Lib.hid hax
  clear hax
  have hz10 : ripP axis = false → q = ([], 10) := fun h => by rw [← HQ.out, if_pos h]
  have hz19 : ripP axis = true → (fr = false ∨ sp.length ≠ ps.length) → q = ([], 19) := fun h h' => by rw [← HQ.out, if_neg (by rw [h]; decide), hfr, if_pos h']
  have hz9 : ripP axis = true → fr = true → sp.length = ps.length → (kerf < 0 ∨ 20 < kerf) → q = ([], 9) := fun h h' h'' h3 => by rw [← HQ.out, if_neg (by rw [h]; decide), hfr, if_neg (by rw [h']; rintro (e | e); cases e; exact e h''), if_pos h3]
  have hzgo : ripP axis = true → fr = true → sp.length = ps.length → ¬ (kerf < 0 ∨ 20 < kerf) → rowGo axis kerf (highP r axis) sp ps (lowP r axis) false [] = q := fun h h' h'' h3 => by rw [← HQ.out, if_neg (by rw [h]; decide), hfr, if_neg (by rw [h']; rintro (e | e); cases e; exact e h''), if_neg h3]
  have HZ10 := Lib.hid hz10
  have HZ19 := Lib.hid hz19
  have HZ9 := Lib.hid hz9
  have HZG := Lib.hid hzgo
  have HFR := Lib.hid hfr
  clear hz10 hz19 hz9 hzgo HQ hfr
  rcases HAX.out with ⟨ha, a1, a2⟩ | hax
  · have HR := Lib.hid (HZ10.out ha)
    clear ha
    go_enter Tryd.func25, Tryd.ntmps25
    go_wp2_with fail
    rw [HR.out]
    refine bodyPost_ret (v := .tuple #[.slice none 0 0, .int .i64 10]) (by simp [results, Tryd.results25, go_sem]) rfl ⟨_, rfl, RdNd.nil _ _, HB.out⟩
  · have hrip : ripP axis = true := by rcases hax with h | h <;> exact h.1
    have HRIP := Lib.hid hrip
    have ha12 : ((axis != 2) = true ∧ (axis != 3) = false) ∨ (axis != 2) = false := by
      rcases hax with h | h
      · exact .inr h.2.1
      · exact .inl ⟨h.2.1, h.2.2.1⟩
    have HAX2 := Lib.hid hax
    clear hax hrip HAX
    cases fr with
    | false =>
      have HR := Lib.hid (HZ19.out HRIP.out (.inl rfl))
      rcases ha12 with ⟨a1, a2⟩ | a1
      all_goals
        go_enter Tryd.func25, Tryd.ntmps25
        go_wp2_with fail
        refine (HIF.out _).mono ?_
        rintro e w1 ⟨he, hb1⟩
        subst he
        have HB1 := Lib.hid (HB.out.trans (hb1.mono (by simp only [World.size_alloc]; omega)))
        clear hb1
        go_wp2_with fail
        rw [HR.out]
        refine bodyPost_ret (v := .tuple #[.slice none 0 0, .int .i64 19]) (by simp [results, Tryd.results25, go_sem]) rfl ⟨_, rfl, RdNd.nil _ _, HB1.out⟩
    | true =>
      by_cases hln : sp.length = ps.length
      · by_cases hkf : kerf < 0 ∨ 20 < kerf
        · have HR := Lib.hid (HZ9.out HRIP.out rfl hln hkf)
          have hlb : ((sp.length : Int) != (ps.length : Int)) = false := by rw [bne_eq_false_iff_eq]; omega
          clear hln
          rcases hkf with hkf | hkf
          all_goals
            rcases ha12 with ⟨a1, a2⟩ | a1
            all_goals
              go_enter Tryd.func25, Tryd.ntmps25
              go_wp2_with fail
              refine (HIF.out _).mono ?_
              rintro e w1 ⟨he, hb1⟩
              subst he
              have HB1 := Lib.hid (HB.out.trans (hb1.mono (by simp only [World.size_alloc]; omega)))
              clear hb1
              go_wp2_with fail
              rw [HR.out]
              refine bodyPost_ret (v := .tuple #[.slice none 0 0, .int .i64 9]) (by simp [results, Tryd.results25, go_sem]) rfl ⟨_, rfl, RdNd.nil _ _, HB1.out⟩
        · have HG := Lib.hid (HZG.out HRIP.out rfl hln hkf)
          have hk0 : ¬ kerf < 0 := by omega
          have hk20 : ¬ 20 < kerf := by omega
          have hlb : ((sp.length : Int) != (ps.length : Int)) = false := by rw [bne_eq_false_iff_eq]; omega
          have HLL := Lib.hid hln
          clear hkf hln HZ10 HZ19 HZ9 HZG
          obtain ⟨lo, hlo⟩ : ∃ lo, lowP r axis = lo := ⟨_, rfl⟩
          obtain ⟨hi, hhi⟩ : ∃ hi, highP r axis = hi := ⟨_, rfl⟩
          have hlh : -600 ≤ lo ∧ lo < hi ∧ hi ≤ 600 := by
            have h := frameP_iff.1 HFR.out
            unfold lowP at hlo
            unfold highP at hhi
            split at hlo
            · rename_i e; rw [if_pos e] at hhi; omega
            · rename_i e; rw [if_neg e] at hhi; omega
          rw [hlo, hhi] at HG
          have HLO := Lib.hid (And.intro hlo hhi)
          clear hlo hhi
          go_enter Tryd.func25, Tryd.ntmps25
          rcases HAX2.out with hax | hax
          case' inl =>
            have a1 := hax.2.1
            have a3 := hax.2.2.1
            have ha2 := hax.2.2.2
            have HLX := Lib.hid (show lo = r.xa ∧ hi = r.xb by rw [← HLO.out.1, ← HLO.out.2, lowP, highP, if_pos ha2, if_pos ha2]; exact ⟨rfl, rfl⟩)
            clear hax ha2 ha12
            go_wp2_with fail
            refine (HIF.out _).mono ?_
            rintro e w1 ⟨he, hb1⟩
            subst he
            have hrc1 := (hb1.block w.heap.size (by simp only [World.size_alloc]; omega)).trans HRC.out
            have hb0 := HB.out.trans (hb1.mono (by simp only [World.size_alloc]; omega))
            obtain ⟨r0, r1, r2, r3⟩ := cells4 hrc1
            have hNW : w.heap.size < w1.heap.size := (Array.getElem?_eq_some_iff.1 hrc1).1
            have HNW := Lib.hid hNW
            have HBW0 := Lib.hid hb0
            clear hrc1 hb1 hb0
            go_upto_region 10 with fail
            rw [← HLX.out.1, ← HLX.out.2]
            obtain ⟨K, hK⟩ : ∃ K, w1.heap.size = K := ⟨_, rfl⟩
            have hwK : w.heap.size ≤ K := by have := HNW.out; omega
            obtain ⟨wc, hwc⟩ : ∃ wc, w1.alloc (.cells #[.int .i64 lo, .int .i64 hi] 23) = wc := ⟨_, rfl⟩
            have hbox : wc.heap[K]? = some (.cells #[.int .i64 lo, .int .i64 hi] 23 (0, 0)) := by rw [← hwc, ← hK]; exact heap_alloc_last _ _
            have hbel : Below w.heap.size w wc := by rw [← hwc]; exact HBW0.out.alloc (by have := HNW.out; omega) _
            rw [hwc, hK]
            clear hwc hK hNW r0 r1 r2 r3 a1 a3 HNW
          case' inr =>
            have a1 := hax.2.1
            have a2 := hax.2.2.1
            have a3 := hax.2.2.2.1
            have ha2 := hax.2.2.2.2
            have HLX := Lib.hid (show lo = r.ya ∧ hi = r.yb by rw [← HLO.out.1, ← HLO.out.2, lowP, highP, if_neg (by omega), if_neg (by omega)]; exact ⟨rfl, rfl⟩)
            clear hax ha2 ha12
            go_wp2_with fail
            refine (HIF.out _).mono ?_
            rintro e w1 ⟨he, hb1⟩
            subst he
            have hrc1 := (hb1.block w.heap.size (by simp only [World.size_alloc]; omega)).trans HRC.out
            have hb0 := HB.out.trans (hb1.mono (by simp only [World.size_alloc]; omega))
            obtain ⟨r0, r1, r2, r3⟩ := cells4 hrc1
            have hNW : w.heap.size < w1.heap.size := (Array.getElem?_eq_some_iff.1 hrc1).1
            have HNW := Lib.hid hNW
            have HBW0 := Lib.hid hb0
            clear hrc1 hb1 hb0
            go_upto_region 10 with fail
            rw [← HLX.out.1, ← HLX.out.2]
            obtain ⟨K, hK⟩ : ∃ K, w1.heap.size = K := ⟨_, rfl⟩
            have hwK : w.heap.size ≤ K := by have := HNW.out; omega
            obtain ⟨wc, hwc⟩ : ∃ wc, w1.alloc (.cells #[.int .i64 lo, .int .i64 hi] 23) = wc := ⟨_, rfl⟩
            have hbox : wc.heap[K]? = some (.cells #[.int .i64 lo, .int .i64 hi] 23 (0, 0)) := by rw [← hwc, ← hK]; exact heap_alloc_last _ _
            have hbel : Below w.heap.size w wc := by rw [← hwc]; exact HBW0.out.alloc (by have := HNW.out; omega) _
            rw [hwc, hK]
            clear hwc hK hNW r0 r1 r2 r3 a1 a3 HNW a2
          all_goals
            have HBOX := Lib.hid hbox
            have HBEL := Lib.hid hbel
            obtain ⟨s0, s1⟩ := cells2 hbox
            have HST0 := Lib.hid (show RoSt w wc K lo hi (.slice none 0 0) [] from ⟨⟨rfl, .inl ⟨rfl, rfl⟩⟩, hbox, hbel, hwK⟩)
            have hwsz := hbel.size
            clear hbox hbel
            go_wp2_with fail
            go_loopw [13, 14, 15, 16] (fun ov ev dv iv wr => ∃ (k : Nat) (edge : Int) (ended : Bool) (acc : List Nd), ev = .int .i64 edge ∧ dv = .bool ended ∧ iv = .int .i64 k ∧ k ≤ sp.length ∧ lo ≤ edge ∧ edge ≤ hi ∧ rowGo axis kerf hi (sp.drop k) (ps.drop k) edge ended acc = q ∧ RoSt w wr K lo hi ov acc ∧ acc.length ≤ k * 203) (fun _ _ _ i _ => sp.length - (intOf i).toNat)
            case atStart => exact ⟨0, lo, false, [], rfl, rfl, rfl, by omega, by omega, by omega, HG.out, HST0.out, by simp⟩
            case round =>
              obtain ⟨k, edge, ended, acc, rfl, rfl, rfl, hkl, he0, he1, hqk, hst, hal⟩ := hrel
              have HQK := Lib.hid hqk
              have HST := Lib.hid hst
              have hKl := hst.kK
              clear s0 s1 HG HST0 hqk
              obtain ⟨s0, s1⟩ := cells2 hst.box
              clear hst
              by_cases hlt : k < sp.length
              · have hs : sp[k]? = some sp[k] := List.getElem?_eq_getElem hlt
                obtain ⟨s, hse⟩ : ∃ s, sp[k] = s := ⟨_, rfl⟩
                rw [hse] at hs
                obtain ⟨a, b⟩ := s
                obtain ⟨bs, os, hAs, hbs, d0, d1⟩ := RdSp.at_ (HSP.out.below HST.out.bel) hs
                subst hAs
                have HDR := Lib.hid (show sp.drop k = (a, b) :: sp.drop (k + 1) by rw [List.drop_eq_getElem_cons hlt, hse])
                have hkp : k < ps.length := by have := HLL.out; omega
                have hx : ps[k]? = some ps[k] := List.getElem?_eq_getElem hkp
                obtain ⟨x, hxe⟩ : ∃ x, ps[k] = x := ⟨_, rfl⟩
                rw [hxe] at hx
                have hxl : x.length ≤ 200 := HPL.out x (List.mem_of_getElem? hx)
                have HDP := Lib.hid (show ps.drop k = x :: ps.drop (k + 1) by rw [List.drop_eq_getElem_cons hkp, hxe])
                have HX := Lib.hid hx
                have HS := Lib.hid hs
                have HR := Lib.hid (show (if b ≤ a then ([], 19) else if ended = true ∨ (a ≠ edge ∧ a < edge + kerf + 1) then ([], 11) else if hi < b then ([], 20)
                    else rowGo axis kerf hi (sp.drop (k + 1)) (ps.drop (k + 1)) (min (b + kerf) hi) (decide (b = hi)) (acc ++ (gapN axis kerf a edge ++ (cutN axis b hi ++ x)))) = q by
                  have h := HQK.out
                  rw [HDR.out, HDP.out, rowGo] at h
                  exact h)
                have f1 : (0 : Int) ≤ (k : Int) := by omega
                have f2 : (k : Int) < (sp.length : Int) := by omega
                have hbsK : bs < wr.heap.size := by have := HST.out.bel.size; omega
                clear hs hse hx hxe HQK
                by_cases z1 : b ≤ a
                · have hz : q = ([], 19) := by rw [← HR.out, if_pos z1]
                  have HZ := Lib.hid hz
                  clear HR hz
                  go_wp2_with fail
                  go_quiet (fail)
                  go_wp2_with fail
                  rw [HZ.out]
                  refine bodyPost_ret (v := .tuple #[.slice none 0 0, .int .i64 19]) (by simp [results, Tryd.results25, go_sem]) rfl ⟨_, rfl, RdNd.nil _ _, below_drewNn HST.out.bel _⟩
                cases ended with
                | true =>
                  have hz : q = ([], 11) := by rw [← HR.out, if_neg z1, if_pos (.inl rfl)]
                  have HZ := Lib.hid hz
                  clear HR hz
                  go_wp2_with fail
                  go_quiet (fail)
                  go_wp2_with fail
                  rw [HZ.out]
                  refine bodyPost_ret (v := .tuple #[.slice none 0 0, .int .i64 11]) (by simp [results, Tryd.results25, go_sem]) rfl ⟨_, rfl, RdNd.nil _ _, below_drewNn HST.out.bel _⟩
                | false =>
                  by_cases z2 : a ≠ edge ∧ a < edge + kerf + 1
                  · have hz : q = ([], 11) := by rw [← HR.out, if_neg z1, if_pos (.inr z2)]
                    have HZ := Lib.hid hz
                    have zb : (a != edge) = true := by rw [bne_iff_ne]; exact z2.1
                    have z2b := z2.2
                    clear HR hz z2
                    go_wp2_with fail
                    go_quiet (fail)
                    go_wp2_with fail
                    rw [HZ.out]
                    refine bodyPost_ret (v := .tuple #[.slice none 0 0, .int .i64 11]) (by simp [results, Tryd.results25, go_sem]) rfl ⟨_, rfl, RdNd.nil _ _, below_drewNn HST.out.bel _⟩
                  have z2n : ((a != edge) = false ∧ a = edge) ∨ ((a != edge) = true ∧ edge + kerf + 1 ≤ a) := by
                    by_cases e : a = edge
                    · exact .inl ⟨by rw [bne_eq_false_iff_eq]; exact e, e⟩
                    · exact .inr ⟨by rw [bne_iff_ne]; exact e, by omega⟩
                  by_cases z3 : hi < b
                  · have hz : q = ([], 20) := by
                      rw [← HR.out, if_neg z1, if_neg (by rintro (h | h); cases h; exact z2 h), if_pos z3]
                    have HZ := Lib.hid hz
                    clear HR hz z2
                    rcases z2n with ⟨zb, zc⟩ | ⟨zb, zc⟩
                    case' inl => clear zc
                    case' inr =>
                      have zd : ¬ a < edge + kerf + 1 := by omega
                      clear zc
                    all_goals
                      go_wp2_with fail
                      go_quiet (fail)
                      go_wp2_with fail
                      go_quiet (fail)
                      go_wp2_with fail
                      rw [HZ.out]
                      refine bodyPost_ret (v := .tuple #[.slice none 0 0, .int .i64 20]) (by simp [results, Tryd.results25, go_sem]) rfl ⟨_, rfl, RdNd.nil _ _, below_drewNn (below_drewNn HST.out.bel _) _⟩
                  · have HR2 := Lib.hid (show rowGo axis kerf hi (sp.drop (k + 1)) (ps.drop (k + 1)) (min (b + kerf) hi) (decide (b = hi)) (acc ++ (gapN axis kerf a edge ++ (cutN axis b hi ++ x))) = q by
                      have h := HR.out
                      rw [if_neg z1, if_neg (by rintro (h | h); cases h; exact z2 h), if_neg z3] at h
                      exact h)
                    clear HR z2
                    have hal2 : acc.length ≤ 20300 := by have : k * 203 ≤ 100 * 203 := Nat.mul_le_mul_right 203 (by omega); omega
                    rcases z2n with ⟨zb, zc⟩ | ⟨zb, zc⟩
                    · have HZC := Lib.hid zc
                      have HGP := Lib.hid (show gapN axis kerf a edge = [] by rw [gapN, if_neg (by omega)])
                      have hbl : edge < b := by omega
                      clear zc
                      go_wp2_with fail
                      go_quiet (fail)
                      go_upto_region 19 with fail
                      generalize hW1 : wr.drewN nq = W1
                      have HS1 := Lib.hid (show RoSt w W1 K lo hi u13 acc from hW1 ▸ HST.out.drewN nq)
                      clear hW1 s0 s1 d0 d1
                      obtain ⟨s0, s1⟩ := cells2 HS1.out.box
                      obtain ⟨d0, d1⟩ := RdSp.at2 (HSP.out.below HS1.out.bel) HS.out
                      have hk1 := HS1.out.kK
                      have hb1 : bs < W1.heap.size := by have := HS1.out.bel.size; omega
                      go_quiet (fail)
                      go_upto_region 21 with fail
                      generalize hW2 : W1.drewN nq = W2
                      have HS2 := Lib.hid (show RoSt w W2 K lo hi u13 acc from hW2 ▸ HS1.out.drewN nq)
                      clear hW2 s0 s1 d0 d1
                      obtain ⟨s0, s1⟩ := cells2 HS2.out.box
                      obtain ⟨d0, d1⟩ := RdSp.at2 (HSP.out.below HS2.out.bel) HS.out
                      have hk2 := HS2.out.kK
                      have hb2 : bs < W2.heap.size := by have := HS2.out.bel.size; omega
                      obtain ⟨i0, hi0, hz0, hz1, hz2⟩ := info_parts nd_infoE
                      go_upto_region 23 with fail
                      go_quiet (fail)
                      by_cases hbh : b = hi
                      · have hbb : (b == hi) = true := by rw [beq_iff_eq]; exact hbh
                        have HBH := Lib.hid hbh
                        have HCN := Lib.hid (show cutN axis b hi = [] by rw [cutN, if_neg (fun h => h hbh)])
                        clear hbh
                        go_upto_region 26 with fail
                        generalize hW3 : W2.drewN nq = W3
                        have HS3 := Lib.hid (show RoSt w W3 K lo hi u13 acc from hW3 ▸ HS2.out.drewN nq)
                        clear hW3 s0 s1 d0 d1
                        obtain ⟨s0, s1⟩ := cells2 HS3.out.box
                        obtain ⟨d0, d1⟩ := RdSp.at2 (HSP.out.below HS3.out.bel) HS.out
                        have hk3 := HS3.out.kK
                        have hb3 : bs < W3.heap.size := by have := HS3.out.bel.size; omega
                        obtain ⟨bp, op, Au, cu, hAp, hbp, pu, hrx⟩ := RdPs.at_ (HPS.out.below HS3.out.bel) HX.out
                        have HRX := Lib.hid hrx
                        subst hAp
                        have hbpw : bp < W3.heap.size := by have := HS3.out.bel.size; omega
                        clear hrx
                        go_upto_region 27 with (at_builtin; refine wpList_append_rows _ (by rfl) (.tmp 137) (.tmp 141) 26 (by rfl) (K + 1) 64 i0 _ 2 16 Tryd.underlying26 hi0 hz0 hz1 hz2 rfl (by omega) u13 acc.length (ndCells acc) (by rfl) HS3.out.own (.slice Au x.length cu) (by rfl) x.length w.heap.size (ndCells x) HRX.out (nd_mem x) (by simp only [maxLen]; omega) (by omega) (by omega) ?_; intro v9 w9 hown9 hgrow9; have HO9 := Lib.hid hown9; have HG9 := Lib.hid hgrow9; clear hown9 hgrow9)
                        have H9 := Lib.hid (HS3.out.to0 HG9.out rfl rfl HO9.out)
                        clear s0 s1 d0 d1
                        obtain ⟨s0, s1⟩ := cells2 H9.out.box
                        obtain ⟨d0, d1⟩ := RdSp.at2 (HSP.out.below H9.out.bel) HS.out
                        have hk9 := H9.out.kK
                        have hb9 : bs < w9.heap.size := by have := H9.out.bel.size; omega
                        have hmn : (b + kerf ≤ hi ∧ min (b + kerf) hi = b + kerf) ∨ (hi < b + kerf ∧ min (b + kerf) hi = hi) := by omega
                        have HMN := Lib.hid hmn
                        clear hmn HO9 HG9
                        go_quiet (fail)
                        go_wp2_with fail
                        exact ⟨⟨k + 1, min (b + kerf) hi, true, acc ++ x, rfl, rfl, by go_num, by omega, by have := HMN.out; omega, by have := HMN.out; omega, by
                          have h := HR2.out
                          rw [HGP.out, HCN.out, decide_eq_true HBH.out] at h
                          skip
                          exact h, H9.out.drewN nq, by
                          skip
                          skip
                          rw [List.length_append]
                          omega⟩, by simp [intOf]; omega⟩
                      · have hbb : (b == hi) = false := by rw [beq_eq_false_iff_ne]; exact hbh
                        have HBH := Lib.hid hbh
                        have HCN := Lib.hid (show cutN axis b hi = [⟨axis, b⟩] by rw [cutN, if_pos hbh])
                        clear hbh
                        go_upto_region 25 with fail
                        generalize hW3 : W2.drewN nq = W3
                        have HS3 := Lib.hid (show RoSt w W3 K lo hi u13 acc from hW3 ▸ HS2.out.drewN nq)
                        clear hW3 s0 s1 d0 d1
                        obtain ⟨s0, s1⟩ := cells2 HS3.out.box
                        obtain ⟨d0, d1⟩ := RdSp.at2 (HSP.out.below HS3.out.bel) HS.out
                        have hk3 := HS3.out.kK
                        have hb3 : bs < W3.heap.size := by have := HS3.out.bel.size; omega
                        go_upto_region 26 with (at_builtin; refine wpList_append_lies _ (by rfl) (.tmp 127) (.tmp 135) 26 (by rfl) (K + 1) 64 i0 _ 2 16 Tryd.underlying26 hi0 hz0 hz1 hz2 rfl (by omega) u13 acc.length (ndCells acc) (by rfl) (World.ownsRow.alloc HS3.out.own _) ⟨W3.heap.size, 0, none⟩ 1 1 [.int .i64 axis, .int .i64 b] (by rfl) (by rfl) (World.news_of_block (cs := #[.int .i64 axis, .int .i64 b]) (t := 64) (fr := (0, 0)) (heap_alloc_last W3 _)) (nd_memL _ ⟨[⟨axis, b⟩], rfl⟩) (by omega) (by simp only [maxLen]; omega) (by omega) (by rw [World.size_alloc]; omega) _ rfl ?_; intro g7 cap7 w8 hown7 hgrow hat hlt7; have HO7 := Lib.hid hown7; have HG7 := Lib.hid hgrow; clear hown7 hgrow hat hlt7)
                        obtain ⟨vw8, hv⟩ : ∃ v, Value.slice (some ⟨g7, 0, none⟩) (acc.length + 1) cap7 = v := ⟨_, rfl⟩
                        rw [hv]
                        obtain ⟨ac8, hna⟩ : ∃ l, acc ++ [⟨axis, b⟩] = l := ⟨_, rfl⟩
                        have Hac8 := Lib.hid hna
                        have Hw8 := Lib.hid (show RoSt w w8 K lo hi vw8 ac8 from hna ▸ hv ▸ HS3.out.to HG7.out (ys := [⟨axis, b⟩]) rfl rfl HO7.out)
                        have hlac8 : ac8.length = acc.length + 1 := by rw [← hna]; simp
                        have HLac8 := Lib.hid hlac8
                        have hleac8 : ac8.length ≤ acc.length + 1 := by omega
                        clear hv hna hlac8 HO7 HG7
                        have hkw8 := Hw8.out.kK
                        have hbw8 : bs < w8.heap.size := by have := Hw8.out.bel.size; omega
                        clear s0 s1 d0 d1
                        obtain ⟨s0, s1⟩ := cells2 Hw8.out.box
                        obtain ⟨d0, d1⟩ := RdSp.at2 (HSP.out.below Hw8.out.bel) HS.out
                        obtain ⟨bp, op, Au, cu, hAp, hbp, pu, hrx⟩ := RdPs.at_ (HPS.out.below Hw8.out.bel) HX.out
                        have HRX := Lib.hid hrx
                        subst hAp
                        have hbpw : bp < w8.heap.size := by have := Hw8.out.bel.size; omega
                        clear hrx
                        go_upto_region 27 with (at_builtin; refine wpList_append_rows _ (by rfl) (.tmp 137) (.tmp 141) 26 (by rfl) (K + 1) 64 i0 _ 2 16 Tryd.underlying26 hi0 hz0 hz1 hz2 rfl (by omega) vw8 ac8.length (ndCells ac8) (by rfl) Hw8.out.own (.slice Au x.length cu) (by rfl) x.length w.heap.size (ndCells x) HRX.out (nd_mem x) (by simp only [maxLen]; omega) (by omega) (by omega) ?_; intro v9 w9 hown9 hgrow9; have HO9 := Lib.hid hown9; have HG9 := Lib.hid hgrow9; clear hown9 hgrow9)
                        have H9 := Lib.hid (Hw8.out.to0 HG9.out rfl rfl HO9.out)
                        clear s0 s1 d0 d1
                        obtain ⟨s0, s1⟩ := cells2 H9.out.box
                        obtain ⟨d0, d1⟩ := RdSp.at2 (HSP.out.below H9.out.bel) HS.out
                        have hk9 := H9.out.kK
                        have hb9 : bs < w9.heap.size := by have := H9.out.bel.size; omega
                        have hmn : (b + kerf ≤ hi ∧ min (b + kerf) hi = b + kerf) ∨ (hi < b + kerf ∧ min (b + kerf) hi = hi) := by omega
                        have HMN := Lib.hid hmn
                        clear hmn HO9 HG9
                        go_quiet (fail)
                        go_wp2_with fail
                        exact ⟨⟨k + 1, min (b + kerf) hi, false, ac8 ++ x, rfl, rfl, by go_num, by omega, by have := HMN.out; omega, by have := HMN.out; omega, by
                          have h := HR2.out
                          rw [HGP.out, HCN.out, decide_eq_false HBH.out] at h
                          rw [← Hac8.out, List.append_assoc]
                          exact h, H9.out.drewN nq, by
                          have h8 := HLac8.out
                          skip
                          rw [List.length_append]
                          omega⟩, by simp [intOf]; omega⟩
                    · have HZC := Lib.hid zc
                      have HGP := Lib.hid (show gapN axis kerf a edge = [⟨axis, a - kerf⟩, ⟨0, 0⟩] by rw [gapN, if_pos (by omega)])
                      have za : -620 ≤ a - kerf := by omega
                      have za1 : a - kerf ≤ 620 := by omega
                      have zd : ¬ a < edge + kerf + 1 := by omega
                      have hbl : edge < b := by omega
                      clear zc
                      go_wp2_with fail
                      go_quiet (fail)
                      go_upto_region 19 with fail
                      generalize hW1 : wr.drewN nq = W1
                      have HS1 := Lib.hid (show RoSt w W1 K lo hi u13 acc from hW1 ▸ HST.out.drewN nq)
                      clear hW1 s0 s1 d0 d1
                      obtain ⟨s0, s1⟩ := cells2 HS1.out.box
                      obtain ⟨d0, d1⟩ := RdSp.at2 (HSP.out.below HS1.out.bel) HS.out
                      have hk1 := HS1.out.kK
                      have hb1 : bs < W1.heap.size := by have := HS1.out.bel.size; omega
                      go_quiet (fail)
                      go_upto_region 21 with fail
                      generalize hW2 : W1.drewN nq = W2
                      have HS2 := Lib.hid (show RoSt w W2 K lo hi u13 acc from hW2 ▸ HS1.out.drewN nq)
                      clear hW2 s0 s1 d0 d1
                      obtain ⟨s0, s1⟩ := cells2 HS2.out.box
                      obtain ⟨d0, d1⟩ := RdSp.at2 (HSP.out.below HS2.out.bel) HS.out
                      have hk2 := HS2.out.kK
                      have hb2 : bs < W2.heap.size := by have := HS2.out.bel.size; omega
                      obtain ⟨i0, hi0, hz0, hz1, hz2⟩ := info_parts nd_infoE
                      go_upto_region 23 with (at_builtin; refine wpList_append_lies _ (by rfl) (.tmp 104) (.tmp 115) 26 (by rfl) (K + 1) 64 i0 _ 2 16 Tryd.underlying26 hi0 hz0 hz1 hz2 rfl (by omega) u13 acc.length (ndCells acc) (by rfl) (World.ownsRow.alloc HS2.out.own _) ⟨W2.heap.size, 0, none⟩ 2 2 [.int .i64 axis, .int .i64 (a - kerf), .int .i64 0, .int .i64 0] (by rfl) (by rfl) (World.news_of_block (cs := #[.int .i64 axis, .int .i64 (a - kerf), .int .i64 0, .int .i64 0]) (t := 64) (fr := (0, 0)) (heap_alloc_last W2 _)) (nd_memL _ ⟨[⟨axis, a - kerf⟩, ⟨0, 0⟩], rfl⟩) (by omega) (by simp only [maxLen]; omega) (by omega) (by rw [World.size_alloc]; omega) _ rfl ?_; intro g7 cap7 w7 hown7 hgrow hat hlt7; have HO7 := Lib.hid hown7; have HG7 := Lib.hid hgrow; clear hown7 hgrow hat hlt7)
                      obtain ⟨vw7, hv⟩ : ∃ v, Value.slice (some ⟨g7, 0, none⟩) (acc.length + 2) cap7 = v := ⟨_, rfl⟩
                      rw [hv]
                      obtain ⟨ac7, hna⟩ : ∃ l, acc ++ [⟨axis, a - kerf⟩, ⟨0, 0⟩] = l := ⟨_, rfl⟩
                      have Hac7 := Lib.hid hna
                      have Hw7 := Lib.hid (show RoSt w w7 K lo hi vw7 ac7 from hna ▸ hv ▸ HS2.out.to HG7.out (ys := [⟨axis, a - kerf⟩, ⟨0, 0⟩]) rfl rfl HO7.out)
                      have hlac7 : ac7.length = acc.length + 2 := by rw [← hna]; simp
                      have HLac7 := Lib.hid hlac7
                      have hleac7 : ac7.length ≤ acc.length + 2 := by omega
                      clear hv hna hlac7 HO7 HG7
                      have hkw7 := Hw7.out.kK
                      have hbw7 : bs < w7.heap.size := by have := Hw7.out.bel.size; omega
                      clear s0 s1 d0 d1
                      obtain ⟨s0, s1⟩ := cells2 Hw7.out.box
                      obtain ⟨d0, d1⟩ := RdSp.at2 (HSP.out.below Hw7.out.bel) HS.out
                      go_quiet (fail)
                      by_cases hbh : b = hi
                      · have hbb : (b == hi) = true := by rw [beq_iff_eq]; exact hbh
                        have HBH := Lib.hid hbh
                        have HCN := Lib.hid (show cutN axis b hi = [] by rw [cutN, if_neg (fun h => h hbh)])
                        clear hbh
                        go_upto_region 26 with fail
                        generalize hW3 : w7.drewN nq = W3
                        have HS3 := Lib.hid (show RoSt w W3 K lo hi vw7 ac7 from hW3 ▸ Hw7.out.drewN nq)
                        clear hW3 s0 s1 d0 d1
                        obtain ⟨s0, s1⟩ := cells2 HS3.out.box
                        obtain ⟨d0, d1⟩ := RdSp.at2 (HSP.out.below HS3.out.bel) HS.out
                        have hk3 := HS3.out.kK
                        have hb3 : bs < W3.heap.size := by have := HS3.out.bel.size; omega
                        obtain ⟨bp, op, Au, cu, hAp, hbp, pu, hrx⟩ := RdPs.at_ (HPS.out.below HS3.out.bel) HX.out
                        have HRX := Lib.hid hrx
                        subst hAp
                        have hbpw : bp < W3.heap.size := by have := HS3.out.bel.size; omega
                        clear hrx
                        go_upto_region 27 with (at_builtin; refine wpList_append_rows _ (by rfl) (.tmp 137) (.tmp 141) 26 (by rfl) (K + 1) 64 i0 _ 2 16 Tryd.underlying26 hi0 hz0 hz1 hz2 rfl (by omega) vw7 ac7.length (ndCells ac7) (by rfl) HS3.out.own (.slice Au x.length cu) (by rfl) x.length w.heap.size (ndCells x) HRX.out (nd_mem x) (by simp only [maxLen]; omega) (by omega) (by omega) ?_; intro v9 w9 hown9 hgrow9; have HO9 := Lib.hid hown9; have HG9 := Lib.hid hgrow9; clear hown9 hgrow9)
                        have H9 := Lib.hid (HS3.out.to0 HG9.out rfl rfl HO9.out)
                        clear s0 s1 d0 d1
                        obtain ⟨s0, s1⟩ := cells2 H9.out.box
                        obtain ⟨d0, d1⟩ := RdSp.at2 (HSP.out.below H9.out.bel) HS.out
                        have hk9 := H9.out.kK
                        have hb9 : bs < w9.heap.size := by have := H9.out.bel.size; omega
                        have hmn : (b + kerf ≤ hi ∧ min (b + kerf) hi = b + kerf) ∨ (hi < b + kerf ∧ min (b + kerf) hi = hi) := by omega
                        have HMN := Lib.hid hmn
                        clear hmn HO9 HG9
                        go_quiet (fail)
                        go_wp2_with fail
                        exact ⟨⟨k + 1, min (b + kerf) hi, true, ac7 ++ x, rfl, rfl, by go_num, by omega, by have := HMN.out; omega, by have := HMN.out; omega, by
                          have h := HR2.out
                          rw [HGP.out, HCN.out, decide_eq_true HBH.out] at h
                          rw [← Hac7.out, List.append_assoc]
                          exact h, H9.out.drewN nq, by
                          skip
                          have h7 := HLac7.out
                          rw [List.length_append]
                          omega⟩, by simp [intOf]; omega⟩
                      · have hbb : (b == hi) = false := by rw [beq_eq_false_iff_ne]; exact hbh
                        have HBH := Lib.hid hbh
                        have HCN := Lib.hid (show cutN axis b hi = [⟨axis, b⟩] by rw [cutN, if_pos hbh])
                        clear hbh
                        go_upto_region 25 with fail
                        generalize hW3 : w7.drewN nq = W3
                        have HS3 := Lib.hid (show RoSt w W3 K lo hi vw7 ac7 from hW3 ▸ Hw7.out.drewN nq)
                        clear hW3 s0 s1 d0 d1
                        obtain ⟨s0, s1⟩ := cells2 HS3.out.box
                        obtain ⟨d0, d1⟩ := RdSp.at2 (HSP.out.below HS3.out.bel) HS.out
                        have hk3 := HS3.out.kK
                        have hb3 : bs < W3.heap.size := by have := HS3.out.bel.size; omega
                        go_upto_region 26 with (at_builtin; refine wpList_append_lies _ (by rfl) (.tmp 127) (.tmp 135) 26 (by rfl) (K + 1) 64 i0 _ 2 16 Tryd.underlying26 hi0 hz0 hz1 hz2 rfl (by omega) vw7 ac7.length (ndCells ac7) (by rfl) (World.ownsRow.alloc HS3.out.own _) ⟨W3.heap.size, 0, none⟩ 1 1 [.int .i64 axis, .int .i64 b] (by rfl) (by rfl) (World.news_of_block (cs := #[.int .i64 axis, .int .i64 b]) (t := 64) (fr := (0, 0)) (heap_alloc_last W3 _)) (nd_memL _ ⟨[⟨axis, b⟩], rfl⟩) (by omega) (by simp only [maxLen]; omega) (by omega) (by rw [World.size_alloc]; omega) _ rfl ?_; intro g7 cap7 w8 hown7 hgrow hat hlt7; have HO7 := Lib.hid hown7; have HG7 := Lib.hid hgrow; clear hown7 hgrow hat hlt7)
                        obtain ⟨vw8, hv⟩ : ∃ v, Value.slice (some ⟨g7, 0, none⟩) (ac7.length + 1) cap7 = v := ⟨_, rfl⟩
                        rw [hv]
                        obtain ⟨ac8, hna⟩ : ∃ l, ac7 ++ [⟨axis, b⟩] = l := ⟨_, rfl⟩
                        have Hac8 := Lib.hid hna
                        have Hw8 := Lib.hid (show RoSt w w8 K lo hi vw8 ac8 from hna ▸ hv ▸ HS3.out.to HG7.out (ys := [⟨axis, b⟩]) rfl rfl HO7.out)
                        have hlac8 : ac8.length = ac7.length + 1 := by rw [← hna]; simp
                        have HLac8 := Lib.hid hlac8
                        have hleac8 : ac8.length ≤ ac7.length + 1 := by omega
                        clear hv hna hlac8 HO7 HG7
                        have hkw8 := Hw8.out.kK
                        have hbw8 : bs < w8.heap.size := by have := Hw8.out.bel.size; omega
                        clear s0 s1 d0 d1
                        obtain ⟨s0, s1⟩ := cells2 Hw8.out.box
                        obtain ⟨d0, d1⟩ := RdSp.at2 (HSP.out.below Hw8.out.bel) HS.out
                        obtain ⟨bp, op, Au, cu, hAp, hbp, pu, hrx⟩ := RdPs.at_ (HPS.out.below Hw8.out.bel) HX.out
                        have HRX := Lib.hid hrx
                        subst hAp
                        have hbpw : bp < w8.heap.size := by have := Hw8.out.bel.size; omega
                        clear hrx
                        go_upto_region 27 with (at_builtin; refine wpList_append_rows _ (by rfl) (.tmp 137) (.tmp 141) 26 (by rfl) (K + 1) 64 i0 _ 2 16 Tryd.underlying26 hi0 hz0 hz1 hz2 rfl (by omega) vw8 ac8.length (ndCells ac8) (by rfl) Hw8.out.own (.slice Au x.length cu) (by rfl) x.length w.heap.size (ndCells x) HRX.out (nd_mem x) (by simp only [maxLen]; omega) (by omega) (by omega) ?_; intro v9 w9 hown9 hgrow9; have HO9 := Lib.hid hown9; have HG9 := Lib.hid hgrow9; clear hown9 hgrow9)
                        have H9 := Lib.hid (Hw8.out.to0 HG9.out rfl rfl HO9.out)
                        clear s0 s1 d0 d1
                        obtain ⟨s0, s1⟩ := cells2 H9.out.box
                        obtain ⟨d0, d1⟩ := RdSp.at2 (HSP.out.below H9.out.bel) HS.out
                        have hk9 := H9.out.kK
                        have hb9 : bs < w9.heap.size := by have := H9.out.bel.size; omega
                        have hmn : (b + kerf ≤ hi ∧ min (b + kerf) hi = b + kerf) ∨ (hi < b + kerf ∧ min (b + kerf) hi = hi) := by omega
                        have HMN := Lib.hid hmn
                        clear hmn HO9 HG9
                        go_quiet (fail)
                        go_wp2_with fail
                        exact ⟨⟨k + 1, min (b + kerf) hi, false, ac8 ++ x, rfl, rfl, by go_num, by omega, by have := HMN.out; omega, by have := HMN.out; omega, by
                          have h := HR2.out
                          rw [HGP.out, HCN.out, decide_eq_false HBH.out] at h
                          rw [← Hac8.out, ← Hac7.out, List.append_assoc, List.append_assoc]
                          exact h, H9.out.drewN nq, by
                          have h8 := HLac8.out
                          have h7 := HLac7.out
                          rw [List.length_append]
                          omega⟩, by simp [intOf]; omega⟩
              · have hke : k = sp.length := by omega
                have HE := Lib.hid (show rowEnd ended acc = q by
                  have h := HQK.out
                  rw [hke, List.drop_length, rowGo] at h
                  exact h)
                have hal2 : acc.length ≤ 20300 := by have : k * 203 ≤ 100 * 203 := Nat.mul_le_mul_right 203 (by omega); omega
                have hkn : ¬ (k : Int) < (sp.length : Int) := by omega
                clear HQK hke
                cases ended with
                | true =>
                  have hrd : RdNd wr wr.heap.size u13 acc := Rd.of_own HST.out.own
                  obtain ⟨A3, c3, hu, _, _⟩ := hrd.form
                  subst hu
                  have HRD := Lib.hid hrd
                  by_cases hlen : 127 < acc.length
                  · have HZ := Lib.hid (show q = ([], 4) by rw [← HE.out, rowEnd, if_pos rfl, if_pos hlen])
                    have hlb : (127 : Int) < acc.length := by omega
                    clear hrd HE
                    go_wp2_with fail
                    rw [HZ.out]
                    refine bodyPost_ret (v := .tuple #[.slice none 0 0, .int .i64 4]) (by simp [results, Tryd.results25, go_sem]) rfl ⟨_, rfl, RdNd.nil _ _, HST.out.bel⟩
                  · have HZ := Lib.hid (show q = (acc, 0) by rw [← HE.out, rowEnd, if_pos rfl, if_neg hlen])
                    have hlb : ¬ (127 : Int) < acc.length := by omega
                    clear hrd HE
                    go_wp2_with fail
                    rw [HZ.out]
                    refine bodyPost_ret (v := .tuple #[.slice A3 acc.length c3, .int .i64 0]) (by simp [results, Tryd.results25, go_sem]) rfl ⟨_, rfl, HRD.out, HST.out.bel⟩
                | false =>
                  obtain ⟨i0, hi0, hz0, hz1, hz2⟩ := info_parts nd_infoE
                  go_upto_region 30 with (at_builtin; refine wpList_append_lies _ (by rfl) (.tmp 155) (.tmp 157) 26 (by rfl) (K + 1) 64 i0 _ 2 16 Tryd.underlying26 hi0 hz0 hz1 hz2 rfl (by omega) u13 acc.length (ndCells acc) (by rfl) (World.ownsRow.alloc HST.out.own _) ⟨wr.heap.size, 0, none⟩ 1 1 [.int .i64 0, .int .i64 0] (by rfl) (by rfl) (World.news_of_block (cs := #[.int .i64 0, .int .i64 0]) (t := 64) (fr := (0, 0)) (heap_alloc_last wr _)) (nd_memL _ ⟨[⟨0, 0⟩], rfl⟩) (by omega) (by simp only [maxLen]; omega) (by omega) (by rw [World.size_alloc]; omega) _ rfl ?_; intro g7 cap7 w7 hown7 hgrow hat hlt7; have HO7 := Lib.hid hown7; have HG7 := Lib.hid hgrow; clear hown7 hgrow hat hlt7)
                  obtain ⟨vw7, hv⟩ : ∃ v, Value.slice (some ⟨g7, 0, none⟩) (acc.length + 1) cap7 = v := ⟨_, rfl⟩
                  rw [hv]
                  obtain ⟨ac7, hna⟩ : ∃ l, acc ++ [⟨0, 0⟩] = l := ⟨_, rfl⟩
                  have Hac7 := Lib.hid hna
                  have Hw7 := Lib.hid (show RoSt w w7 K lo hi vw7 ac7 from hna ▸ hv ▸ HST.out.to HG7.out (ys := [⟨0, 0⟩]) rfl rfl HO7.out)
                  have hlac7 : ac7.length = acc.length + 1 := by rw [← hna]; simp
                  have HLac7 := Lib.hid hlac7
                  have hleac7 : ac7.length ≤ acc.length + 1 := by omega
                  clear hv hna hlac7 HO7 HG7
                  have hkw7 := Hw7.out.kK
                  have HE2 := Lib.hid (show (if 127 < ac7.length then (([], 4) : List Nd × Int) else (ac7, 0)) = q by
                    have h := HE.out
                    unfold rowEnd at h
                    simp only [Bool.false_eq_true, if_false] at h
                    rw [Hac7.out] at h
                    exact h)
                  have hrd : RdNd w7 w7.heap.size vw7 ac7 := Rd.of_own Hw7.out.own
                  obtain ⟨A3, c3, hu, _, _⟩ := hrd.form
                  subst hu
                  have HRD := Lib.hid hrd
                  by_cases hlen : 127 < ac7.length
                  · have HZ := Lib.hid (show q = ([], 4) by rw [← HE2.out, if_pos hlen])
                    have hlb : (127 : Int) < ac7.length := by omega
                    clear hrd HE HE2
                    go_wp2_with fail
                    rw [HZ.out]
                    refine bodyPost_ret (v := .tuple #[.slice none 0 0, .int .i64 4]) (by simp [results, Tryd.results25, go_sem]) rfl ⟨_, rfl, RdNd.nil _ _, Hw7.out.bel⟩
                  · have HZ := Lib.hid (show q = (ac7, 0) by rw [← HE2.out, if_neg hlen])
                    have hlb : ¬ (127 : Int) < ac7.length := by omega
                    clear hrd HE HE2
                    go_wp2_with fail
                    rw [HZ.out]
                    refine bodyPost_ret (v := .tuple #[.slice A3 ac7.length c3, .int .i64 0]) (by simp [results, Tryd.results25, go_sem]) rfl ⟨_, rfl, HRD.out, Hw7.out.bel⟩
      · have HR := Lib.hid (HZ19.out HRIP.out (.inr hln))
        have hlb : ((sp.length : Int) != (ps.length : Int)) = true := by rw [bne_iff_ne]; omega
        clear hln
        rcases ha12 with ⟨a1, a2⟩ | a1
        all_goals
          go_enter Tryd.func25, Tryd.ntmps25
          go_wp2_with fail
          refine (HIF.out _).mono ?_
          rintro e w1 ⟨he, hb1⟩
          subst he
          have HB1 := Lib.hid (HB.out.trans (hb1.mono (by simp only [World.size_alloc]; omega)))
          clear hb1
          go_wp2_with fail
          rw [HR.out]
          refine bodyPost_ret (v := .tuple #[.slice none 0 0, .int .i64 19]) (by simp [results, Tryd.results25, go_sem]) rfl ⟨_, rfl, RdNd.nil _ _, HB1.out⟩
end Go.Proofs.YtbmcfodhjibooaaDoor
