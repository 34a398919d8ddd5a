/-
  The contracts of span.Len, charge.thickness, charge.Check.
-/
import Derived.Test.YthineckpociomaaDoorBdS
import Derived.Test.YthineckpociomaaDoorKiS
namespace Go.Proofs.YthineckpociomaaDoor
open Go.RowKit Saw Go.Sort

def InI (n : Int) : Prop := -9223372036854775808 ≤ n ∧ n ≤ 9223372036854775807
set_option maxHeartbeats 400000 in
theorem spanSize_any (a b : Int) (w : World) (h0 : InI a) (h1 : InI b) : Calls Tryd.prog 37 #[.agg #[.int .i64 a, .int .i64 b]] w fun e w' => e = .returned (.int .u64 (if b ≤ a then 0 else b - a)) ∧ Below w.heap.size w w' := by
  obtain ⟨h0a, h0b⟩ := h0
  obtain ⟨h1a, h1b⟩ := h1
  go_enter Tryd.func37, Tryd.ntmps37
  go_wp2
  all_goals go_ret
  all_goals refine ⟨ret_int ?_, by repeat (first | exact Below.refl _ _ | apply bel_alloc)⟩
  all_goals (try simp only [IntKind.wrap_u64])
  all_goals (first | omega | (split <;> omega))
set_option maxHeartbeats 400000 in
theorem limited_any (n : Int) (w : World) (h0 : 0 ≤ n) (h1 : n ≤ 18446744073709551615) : Calls Tryd.prog 36 #[.int .u64 n] w fun e w' => e = .returned (.int .i64 (min n 9223372036854775807)) ∧ w' = w := by
  go_enter Tryd.func36, Tryd.ntmps36
  go_wp2
  all_goals go_ret
  all_goals refine ⟨ret_int ?_, rfl⟩
  all_goals omega
set_option maxHeartbeats 400000 in
theorem spanLen_any (a b : Int) (w : World) (h0 : InI a) (h1 : InI b) : Calls Tryd.prog 20 #[.agg #[.int .i64 a, .int .i64 b]] w (IntB (lenP a b) w) := by
  obtain ⟨n, hn⟩ : ∃ n, (if b ≤ a then 0 else b - a) = n := ⟨_, rfl⟩
  have hm : min n 9223372036854775807 = lenP a b := by rw [← hn]; unfold lenP; split <;> omega
  have hn0 : 0 ≤ n ∧ n ≤ 18446744073709551615 := by have h2 := h0.1; have h3 := h1.2; rw [← hn]; split <;> omega
  have HS := Lib.hid (fun W => hn ▸ spanSize_any a b W h0 h1)
  have HL := Lib.hid (fun W => hm ▸ limited_any n W hn0.1 hn0.2)
  clear hn hm hn0 h0 h1
  go_enter Tryd.func20, Tryd.ntmps20
  go_wp2_with fail
  refine (HS.out _).mono ?_
  rintro e w1 ⟨he, hb⟩
  subst he
  have HB := Lib.hid ((bel_alloc (Below.refl w.heap.size w)).trans (hb.mono (by simp only [World.size_alloc]; omega)))
  clear hb
  go_wp2_with fail
  refine (HL.out _).mono ?_
  rintro e w2 ⟨he, rfl⟩
  subst he
  go_wp2_with fail
  go_ret
  exact ⟨rfl, HB.out⟩

/-- The numbers of a board that came in. -/
def BdI (b : Bd) : Prop := InI b.xa ∧ InI b.xb ∧ InI b.ya ∧ InI b.yb
set_option maxRecDepth 100000 in
set_option maxHeartbeats 2000000 in
theorem thick_any (b : Bd) (w : World) (hi : BdI b) : Calls Tryd.prog 12 #[.agg (boCells b).toArray] w (IntB (thickP b) w) := by
  obtain ⟨n1, h1⟩ : ∃ n, lenP b.xa b.xb = n := ⟨_, rfl⟩
  obtain ⟨n2, h2⟩ : ∃ n, lenP b.ya b.yb = n := ⟨_, rfl⟩
  have hn1 := lenP_in b.xa b.xb
  have hn2 := lenP_in b.ya b.yb
  rw [h1] at hn1
  rw [h2] at hn2
  have HT := Lib.hid (show thickP b = min n1 n2 by rw [thickP, h1, h2])
  have D1 : Hid (∀ V : World, Calls Tryd.prog 20 #[.agg #[.int .i64 b.xa, .int .i64 b.xb]] V fun e w' => e = .returned (.int .i64 n1) ∧ Below V.heap.size V w') := Lib.hid (fun V => h1 ▸ spanLen_any b.xa b.xb V hi.1 hi.2.1)
  have D2 : Hid (∀ V : World, Calls Tryd.prog 20 #[.agg #[.int .i64 b.ya, .int .i64 b.yb]] V fun e w' => e = .returned (.int .i64 n2) ∧ Below V.heap.size V w') := Lib.hid (fun V => h2 ▸ spanLen_any b.ya b.yb V hi.2.2.1 hi.2.2.2)
  clear h1 h2 hi
  show Calls Tryd.prog 12 #[.agg #[.string (str b.id), .string (str b.log), .string (str b.species), .int .i64 b.product, .int .i64 b.xa, .int .i64 b.xb, .int .i64 b.ya, .int .i64 b.yb, .int .i64 b.za, .int .i64 b.zb, .int .i64 b.volume, .slice b.da b.dn b.dc, .int .i64 b.wane, .int .i64 b.surf, .int .i64 b.core, .int .i64 b.stress, .bool b.dried, .int .i64 b.grade]] w _
  go_enter Tryd.func12, Tryd.ntmps12
  go_upto_region 1 with fail
  obtain ⟨W, hW⟩ : ∃ W, w.alloc (.cells #[.string (str b.id), .string (str b.log), .string (str b.species), .int .i64 b.product, .int .i64 b.xa, .int .i64 b.xb, .int .i64 b.ya, .int .i64 b.yb, .int .i64 b.za, .int .i64 b.zb, .int .i64 b.volume, .slice b.da b.dn b.dc, .int .i64 b.wane, .int .i64 b.surf, .int .i64 b.core, .int .i64 b.stress, .bool b.dried, .int .i64 b.grade] 40) = W := ⟨_, rfl⟩
  have HB := Lib.hid (show Below w.heap.size w W by rw [← hW]; exact bel_alloc (Below.refl _ _))
  have hg : W.heap[w.heap.size]? = some (.cells #[.string (str b.id), .string (str b.log), .string (str b.species), .int .i64 b.product, .int .i64 b.xa, .int .i64 b.xb, .int .i64 b.ya, .int .i64 b.yb, .int .i64 b.za, .int .i64 b.zb, .int .i64 b.volume, .slice b.da b.dn b.dc, .int .i64 b.wane, .int .i64 b.surf, .int .i64 b.core, .int .i64 b.stress, .bool b.dried, .int .i64 b.grade] 40 (0, 0)) := by rw [← hW]; exact heap_alloc_last w _
  rw [hW]
  have y0 := cell_regrown (w := W) (show W.cell? ⟨w.heap.size, 4, none⟩ = some (.int .i64 b.xa) from cell_of_row W w.heap.size 4 _ _ _ hg)
  have y1 := cell_regrown (w := W) (show W.cell? ⟨w.heap.size, 5, none⟩ = some (.int .i64 b.xb) from cell_of_row W w.heap.size 5 _ _ _ hg)
  have y2 := cell_regrown (w := W) (show W.cell? ⟨w.heap.size, 6, none⟩ = some (.int .i64 b.ya) from cell_of_row W w.heap.size 6 _ _ _ hg)
  have y3 := cell_regrown (w := W) (show W.cell? ⟨w.heap.size, 7, none⟩ = some (.int .i64 b.yb) from cell_of_row W w.heap.size 7 _ _ _ hg)
  clear hW hg
  refine wp_region_quiet_below (by kernel_rfl) (by kernel_rfl) ?_
  repeat (first
    | (open Go.BigFrame in go_big_quiet_step ((first | (with_reducible exact Calls.regrown_of (D1.out _)) | (with_reducible exact Calls.regrown_of (D2.out _)))))
    | (quiet_step ((first | (with_reducible exact Calls.regrown_of (D1.out _)) | (with_reducible exact Calls.regrown_of (D2.out _))))))
  refine wpQuiet_nil ?_
  rintro w6 ⟨p6, hw6⟩
  have HB6 := Lib.hid (HB.out.trans ((show Below W.heap.size W w6 by rw [hw6]; exact below_regrown _ _ _).mono HB.out.size))
  clear y0 y1 y2 y3 hw6
  go_wp2_with fail
  go_ret
  exact ⟨by rw [HT.out]; rfl, HB6.out⟩

theorem rdSp_one {w : World} {g : Nat} {s : Sp} (h : w.heap[g]? = some (.cells #[.string (str s.name), .int .i64 s.green, .int .i64 s.fast, .int .i64 s.slow, .int .i64 s.safe, .int .i64 s.grad, .int .i64 s.crack, .int .i64 s.temp, .int .i64 s.depress, .int .i64 s.density, .int .i64 s.stiff, .int .i64 s.knots, .int .i64 s.shrink] 24 (0, 0))) : RdSp w (.slice (some ⟨g, 0, none⟩) 1 1) [s] := by
  have hz : g < w.heap.size := (Array.getElem?_eq_some_iff.1 h).1
  refine ⟨rfl, show 1 ≤ maxLen by decide, some ⟨g, 0, none⟩, 1, rfl, Nat.le_refl _, fun _ => ⟨g, 0, rfl, hz, fun i y hy => ?_⟩⟩
  rw [cell_of_row w g (0 + i) _ _ _ h, Nat.zero_add, List.getElem?_toArray]
  exact hy
set_option maxRecDepth 100000 in
set_option maxHeartbeats 4000000 in
theorem chCheck_any (l : List Bd) (s : Sp) (sc : Sc) (A : Option Addr) (c : Nat) (A2 : Option Addr) (c2 : Nat) (w : World) (hrd : RdBo w (.slice A l.length c) l) (hst : RdSt w w.heap.size (.slice A2 sc.stages.length c2) sc.stages)
    (hbi : ∀ b ∈ l, BdI b) (hnm : sc.name.length ≤ 9223372036854775807) (hsn : s.name.length ≤ 9223372036854775807) (hlen : l.length ≤ 1000) :
    Calls Tryd.prog 11 #[.slice A l.length c, .agg #[.string (str s.name), .int .i64 s.green, .int .i64 s.fast, .int .i64 s.slow, .int .i64 s.safe, .int .i64 s.grad, .int .i64 s.crack, .int .i64 s.temp, .int .i64 s.depress, .int .i64 s.density, .int .i64 s.stiff, .int .i64 s.knots, .int .i64 s.shrink], .agg #[.string (str sc.name), .int .i64 sc.ramp, .slice A2 sc.stages.length c2]] w (IntB (checkCh l s sc) w) := by
  obtain ⟨q, hq⟩ : ∃ q, checkCh l s sc = q := ⟨_, rfl⟩
  have HQ := Lib.hid hq
  rw [hq]
  have HRD := Lib.hid hrd
  have HST := Lib.hid hst
  have HBI := Lib.hid hbi
  have HL := Lib.hid hlen
  clear hq hrd hst hbi
  by_cases h0 : l = []
  · subst h0
    have hq0 : q = 3 := HQ.out.symm
    subst hq0
    go_enter Tryd.func11, Tryd.ntmps11
    go_wp2_with fail
    go_ret
    exact ⟨rfl, by repeat (first | exact Below.refl _ _ | apply bel_alloc)⟩
  have hpos : 0 < l.length := List.length_pos_iff.2 h0
  have hnz : ((l.length : Int) == 0) = false := by rw [beq_eq_false_iff_ne]; omega
  have HF := Lib.hid (show (firstBd s.name l ≠ 0 → q = firstBd s.name l) ∧ (firstBd s.name l = 0 → (if checkSc sc ≠ 0 then checkSc sc else checkSp [s]) = q) by
    have h := HQ.out
    unfold checkCh at h
    rw [if_neg h0, if_neg (by omega)] at h
    refine ⟨fun h1 => ?_, fun h1 => ?_⟩
    · rw [if_pos h1] at h; exact h.symm
    · rw [if_neg (by omega)] at h; exact h)
  clear HQ h0
  go_enter Tryd.func11, Tryd.ntmps11
  go_wp2_with fail
  obtain ⟨W2, hW2⟩ : ∃ W2, (w.alloc (.cells #[.string (str s.name), .int .i64 s.green, .int .i64 s.fast, .int .i64 s.slow, .int .i64 s.safe, .int .i64 s.grad, .int .i64 s.crack, .int .i64 s.temp, .int .i64 s.depress, .int .i64 s.density, .int .i64 s.stiff, .int .i64 s.knots, .int .i64 s.shrink] 24)).alloc (.cells #[.string (str sc.name), .int .i64 sc.ramp, .slice A2 sc.stages.length c2] 27) = W2 := ⟨_, rfl⟩
  have hz2 : W2.heap.size = w.heap.size + 2 := by rw [← hW2, World.size_alloc, World.size_alloc]
  have HB2 := Lib.hid (show Below w.heap.size w W2 by rw [← hW2]; exact bel_alloc (bel_alloc (Below.refl _ _)))
  have HG1 := Lib.hid (show W2.heap[w.heap.size]? = some (.cells #[.string (str s.name), .int .i64 s.green, .int .i64 s.fast, .int .i64 s.slow, .int .i64 s.safe, .int .i64 s.grad, .int .i64 s.crack, .int .i64 s.temp, .int .i64 s.depress, .int .i64 s.density, .int .i64 s.stiff, .int .i64 s.knots, .int .i64 s.shrink] 24 (0, 0)) by rw [← hW2, Below.heap_alloc _ _ _ (by rw [World.size_alloc]; omega)]; exact heap_alloc_last w _)
  have HG2 := Lib.hid (show W2.heap[w.heap.size + 1]? = some (.cells #[.string (str sc.name), .int .i64 sc.ramp, .slice A2 sc.stages.length c2] 27 (0, 0)) by rw [← hW2]; exact (World.size_alloc w (.cells #[.string (str s.name), .int .i64 s.green, .int .i64 s.fast, .int .i64 s.slow, .int .i64 s.safe, .int .i64 s.grad, .int .i64 s.crack, .int .i64 s.temp, .int .i64 s.depress, .int .i64 s.density, .int .i64 s.stiff, .int .i64 s.knots, .int .i64 s.shrink] 24)) ▸ heap_alloc_last (w.alloc (.cells #[.string (str s.name), .int .i64 s.green, .int .i64 s.fast, .int .i64 s.slow, .int .i64 s.safe, .int .i64 s.grad, .int .i64 s.crack, .int .i64 s.temp, .int .i64 s.depress, .int .i64 s.density, .int .i64 s.stiff, .int .i64 s.knots, .int .i64 s.shrink] 24)) _)
  rw [hW2]
  have HZ2 := Lib.hid hz2
  clear hW2 hz2
  go_loopw [20] (fun i wr => ∃ k : Nat, k ≤ l.length ∧ i = .int .i64 k ∧ firstBd s.name (l.drop k) = firstBd s.name l ∧ Below W2.heap.size W2 wr) (fun i _ => l.length - (intOf i).toNat)
  case atStart => exact ⟨0, by omega, rfl, rfl, Below.refl _ _⟩
  case round =>
    obtain ⟨k, hk, rfl, hrk, hb⟩ := hrel
    have HB := Lib.hid hb
    have hszr : w.heap.size + 2 ≤ wr.heap.size := by have := hb.size; rw [HZ2.out] at this; exact this
    have hlt0 : w.heap.size < wr.heap.size := by omega
    have hlt1 : w.heap.size + 1 < wr.heap.size := by omega
    have hg1 : wr.heap[w.heap.size]? = _ := (hb.block _ (by rw [HZ2.out]; omega)).trans HG1.out
    have hg2 : wr.heap[w.heap.size + 1]? = _ := (hb.block _ (by rw [HZ2.out]; omega)).trans HG2.out
    have s0 : wr.cell? ⟨w.heap.size, 0, none⟩ = some (.string (str s.name)) := cell_of_row wr w.heap.size 0 _ _ _ hg1
    have HG1r := Lib.hid hg1
    have HG2r := Lib.hid hg2
    clear hg1 hg2
    by_cases hlt : k < l.length
    · have hx : l[k]? = some l[k] := List.getElem?_eq_getElem hlt
      obtain ⟨x, hxe⟩ : ∃ x, l[k] = x := ⟨_, rfl⟩
      rw [hxe] at hx
      obtain ⟨b, off, rfl, hbl, hrg⟩ := RdBo.at_ (Rd.next HRD.out (HB2.out.trans (hb.mono (by rw [HZ2.out]; omega)))) hx
      have HXI := Lib.hid (HBI.out x (List.mem_of_getElem? hx))
      have HD := Lib.hid (firstBd_drop hx hrk)
      have HRG := Lib.hid hrg
      have c2_ := boC2 x
      have c16 := boC16 x
      have c13 := boC13 x
      have c14 := boC14 x
      have c15 := boC15 x
      obtain ⟨u, hu⟩ : ∃ u, checkBd s.name x = u := ⟨_, rfl⟩
      rw [hu] at HD
      have HB3 := Lib.hid (HB2.out.trans (hb.mono (by rw [HZ2.out]; omega)))
      have HB4 := Lib.hid (fun o : Obj => (show Below w.heap.size w (wr.alloc o) from bel_alloc HB3.out))
      have HU := Lib.hid hu
      clear hb hxe hx hrk hrg
      by_cases hsp : x.species = s.name
      · have e1 : ((str x.species).toList == (str s.name).toList) = true := by rw [beq_iff_eq, hsp]
        have HSP := Lib.hid hsp
        clear hsp
        by_cases hdr : x.dried = true
        · have hu14 : u = 14 := by rw [← HU.out]; unfold checkBd; rw [if_neg (fun h => h HSP.out), if_pos hdr]
          have HQ := Lib.hid (show q = 14 by rw [HF.out.1 (by rw [HD.out.1 (by omega)]; omega), HD.out.1 (by omega), hu14])
          clear hu14 hu
          go_wp2_with (first
            | ((with_reducible refine bo_load b (off + k * 18) x ?hx HRG.out ?_); (case hx => rfl))
            | ((with_reducible refine bo_alloc ?_); intro c5 H5)
            | ((with_reducible refine bo_new x wr.heap.size ?hx rfl ?hy H5 ?_); (case hx => rfl); (case hy => rfl)))
          go_ret
          exact ⟨by rw [HQ.out]; rfl, HB4.out _⟩
        · have hdr' : x.dried = false := by simpa using hdr
          clear hdr
          obtain ⟨m, hm⟩ : ∃ m, checkCl x.cl = m := ⟨_, rfl⟩
          have HMC : Hid (∀ V : World, Calls Tryd.prog 17 #[.agg #[.int .i64 x.surf, .int .i64 x.core, .int .i64 x.stress]] V fun e w' => e = .returned (.int .i64 m) ∧ Below V.heap.size V w') := Lib.hid (fun V => hm ▸ moistCheck_any x.cl V)
          have HM := Lib.hid hm
          clear hm hu
          go_wp2_with (first
            | ((with_reducible refine bo_load b (off + k * 18) x ?hx HRG.out ?_); (case hx => rfl))
            | ((with_reducible refine bo_alloc ?_); intro c5 H5)
            | ((with_reducible refine bo_new x wr.heap.size ?hx rfl ?hy H5 ?_); (case hx => rfl); (case hy => rfl)))
          refine (HMC.out _).mono ?_
          rintro e w5 ⟨he, hb5⟩
          subst he
          have HB45 := Lib.hid (show Below wr.heap.size (wr.alloc (.cells (boCells x).toArray 40)) w5 from hb5.mono (by rw [World.size_alloc]; omega))
          have HB45s := Lib.hid (show wr.heap.size ≤ w5.heap.size from Nat.le_trans (by rw [World.size_alloc]; omega) hb5.size)
          have HBz := Lib.hid HB.out.size
          have HBr := HB
          have HB5 := Lib.hid ((HB4.out _).trans (hb5.mono (HB4.out _).size))
          have HX5 := Lib.hid (rangeAt_below hb5 (show wr.heap.size < (wr.alloc (.cells (boCells x).toArray 40)).heap.size by rw [World.size_alloc]; omega) (rangeAt_block (heap_alloc_last wr (.cells (boCells x).toArray 40))))
          clear hb5
          by_cases hm0 : m = 0
          · subst hm0
            obtain ⟨t, ht⟩ : ∃ t, thickP x = t := ⟨_, rfl⟩
            have HTH : Hid (∀ V : World, Calls Tryd.prog 12 #[.agg (boCells x).toArray] V fun e w' => e = .returned (.int .i64 t) ∧ Below V.heap.size V w') := Lib.hid (fun V => ht ▸ thick_any x V HXI.out)
            have HT := Lib.hid ht
            clear ht
            go_wp2_with ((with_reducible refine bo_load wr.heap.size 0 x ?hx HX5.out ?_); (case hx => rfl))
            refine (HTH.out _).mono ?_
            rintro e w6 ⟨he, hb6⟩
            subst he
            have HB6 := Lib.hid (HB5.out.trans (hb6.mono HB5.out.size))
            have HB6r := Lib.hid (HBr.out.trans ((show Below wr.heap.size wr w6 from (bel_alloc (Below.refl _ _)).trans (HB45.out.trans (hb6.mono (HB45s.out)))).mono HBz.out))
            clear hb6
            have hu0 : u = if t < 1 ∨ 600 < t then 9 else 0 := by
              rw [← HU.out]
              unfold checkBd
              rw [if_neg (fun h => h HSP.out), if_neg (by rw [hdr']; simp), if_neg (by rw [HM.out]; simp), HT.out]
            by_cases ht1 : t < 1
            · have HQ := Lib.hid (show q = 9 by rw [if_pos (.inl ht1)] at hu0; rw [HF.out.1 (by rw [HD.out.1 (by omega)]; omega), HD.out.1 (by omega), hu0])
              clear hu0
              go_wp2_with fail
              go_ret
              exact ⟨by rw [HQ.out]; rfl, HB6.out⟩
            · by_cases ht2 : 600 < t
              · have HQ := Lib.hid (show q = 9 by rw [if_pos (.inr ht2)] at hu0; rw [HF.out.1 (by rw [HD.out.1 (by omega)]; omega), HD.out.1 (by omega), hu0])
                clear hu0
                go_wp2_with fail
                go_ret
                exact ⟨by rw [HQ.out]; rfl, HB6.out⟩
              · have HN := Lib.hid (HD.out.2 (by rw [hu0, if_neg (by omega)]))
                clear hu0
                go_wp2_with fail
                exact ⟨⟨k + 1, by omega, by go_num, HN.out, HB6r.out⟩, by simp [intOf]; omega⟩
          · have hmb : (m != 0) = true := by rw [bne_iff_ne]; exact hm0
            have HQ := Lib.hid (show q = m by
              have hum : u = m := by rw [← HU.out]; unfold checkBd; rw [if_neg (fun h => h HSP.out), if_neg (by rw [hdr']; simp), if_pos (by rw [HM.out]; exact hm0), HM.out]
              rw [HF.out.1 (by rw [HD.out.1 (by omega)]; omega), HD.out.1 (by omega), hum])
            go_wp2_with fail
            go_ret
            exact ⟨by rw [HQ.out]; rfl, HB5.out⟩
      · have e1 : ((str x.species).toList == (str s.name).toList) = false := beq_eq_false_iff_ne.2 fun h => hsp (by rw [toList_bts, toList_bts, bts_str, bts_str] at h; exact h)
        have hu24 : u = 24 := by rw [← HU.out]; unfold checkBd; rw [if_pos hsp]
        have HQ := Lib.hid (show q = 24 by rw [HF.out.1 (by rw [HD.out.1 (by omega)]; omega), HD.out.1 (by omega), hu24])
        clear hu24 hu
        go_wp2_with (first
            | ((with_reducible refine bo_load b (off + k * 18) x ?hx HRG.out ?_); (case hx => rfl))
            | ((with_reducible refine bo_alloc ?_); intro c5 H5)
            | ((with_reducible refine bo_new x wr.heap.size ?hx rfl ?hy H5 ?_); (case hx => rfl); (case hy => rfl)))
        go_ret
        exact ⟨by rw [HQ.out]; rfl, HB4.out _⟩
    · have hf0 : firstBd s.name l = 0 := by rw [← hrk, List.drop_eq_nil_of_le (by omega)]; rfl
      have HQ2 := Lib.hid (HF.out.2 hf0)
      have HB3 := Lib.hid (HB2.out.trans (hb.mono (by rw [HZ2.out]; omega)))
      have z0 : wr.cell? ⟨w.heap.size + 1, 0, none⟩ = some (.string (str sc.name)) := cell_of_row wr (w.heap.size + 1) 0 _ _ _ HG2r.out
      have z1 : wr.cell? ⟨w.heap.size + 1, 1, none⟩ = some (.int .i64 sc.ramp) := cell_of_row wr (w.heap.size + 1) 1 _ _ _ HG2r.out
      have z2 : wr.cell? ⟨w.heap.size + 1, 2, none⟩ = some (.slice A2 sc.stages.length c2) := cell_of_row wr (w.heap.size + 1) 2 _ _ _ HG2r.out
      obtain ⟨m, hm⟩ : ∃ m, checkSc sc = m := ⟨_, rfl⟩
      have HM := Lib.hid hm
      have HSCC : Hid (Calls Tryd.prog 18 #[.agg #[.string (str sc.name), .int .i64 sc.ramp, .slice A2 sc.stages.length c2]] wr fun e w' => e = .returned (.int .i64 m) ∧ Below wr.heap.size wr w') := Lib.hid (hm ▸ scCheck_big sc A2 c2 wr (HST.out.next HB3.out) hnm)
      clear hb hrk hf0 hm
      go_wp2_with fail
      refine HSCC.out.mono ?_
      rintro e w5 ⟨he, hb5⟩
      subst he
      have HB5 := Lib.hid (HB3.out.trans (hb5.mono HB3.out.size))
      have hg5 := (hb5.block _ hlt0).trans HG1r.out
      have HG5 := Lib.hid hg5
      clear hb5 hg5
      by_cases hm0 : m = 0
      · subst hm0
        have HQ3 := Lib.hid (show checkSp [s] = q by have h := HQ2.out; rw [HM.out, if_neg (by simp)] at h; exact h)
        have y0 : w5.cell? ⟨w.heap.size, 0, none⟩ = some (.string (str s.name)) := cell_of_row w5 w.heap.size 0 _ _ _ HG5.out
        have y1 : w5.cell? ⟨w.heap.size, 1, none⟩ = some (.int .i64 s.green) := cell_of_row w5 w.heap.size 1 _ _ _ HG5.out
        have y2 : w5.cell? ⟨w.heap.size, 2, none⟩ = some (.int .i64 s.fast) := cell_of_row w5 w.heap.size 2 _ _ _ HG5.out
        have y3 : w5.cell? ⟨w.heap.size, 3, none⟩ = some (.int .i64 s.slow) := cell_of_row w5 w.heap.size 3 _ _ _ HG5.out
        have y4 : w5.cell? ⟨w.heap.size, 4, none⟩ = some (.int .i64 s.safe) := cell_of_row w5 w.heap.size 4 _ _ _ HG5.out
        have y5 : w5.cell? ⟨w.heap.size, 5, none⟩ = some (.int .i64 s.grad) := cell_of_row w5 w.heap.size 5 _ _ _ HG5.out
        have y6 : w5.cell? ⟨w.heap.size, 6, none⟩ = some (.int .i64 s.crack) := cell_of_row w5 w.heap.size 6 _ _ _ HG5.out
        have y7 : w5.cell? ⟨w.heap.size, 7, none⟩ = some (.int .i64 s.temp) := cell_of_row w5 w.heap.size 7 _ _ _ HG5.out
        have y8 : w5.cell? ⟨w.heap.size, 8, none⟩ = some (.int .i64 s.depress) := cell_of_row w5 w.heap.size 8 _ _ _ HG5.out
        have y9 : w5.cell? ⟨w.heap.size, 9, none⟩ = some (.int .i64 s.density) := cell_of_row w5 w.heap.size 9 _ _ _ HG5.out
        have y10 : w5.cell? ⟨w.heap.size, 10, none⟩ = some (.int .i64 s.stiff) := cell_of_row w5 w.heap.size 10 _ _ _ HG5.out
        have y11 : w5.cell? ⟨w.heap.size, 11, none⟩ = some (.int .i64 s.knots) := cell_of_row w5 w.heap.size 11 _ _ _ HG5.out
        have y12 : w5.cell? ⟨w.heap.size, 12, none⟩ = some (.int .i64 s.shrink) := cell_of_row w5 w.heap.size 12 _ _ _ HG5.out
        have HB7 := Lib.hid (fun o : Obj => (show Below w.heap.size w (w5.alloc o) from bel_alloc HB5.out))
        obtain ⟨W7, hW7⟩ : ∃ W7, w5.alloc (.cells #[.string (str s.name), .int .i64 s.green, .int .i64 s.fast, .int .i64 s.slow, .int .i64 s.safe, .int .i64 s.grad, .int .i64 s.crack, .int .i64 s.temp, .int .i64 s.depress, .int .i64 s.density, .int .i64 s.stiff, .int .i64 s.knots, .int .i64 s.shrink] 24) = W7 := ⟨_, rfl⟩
        have HWC : Hid (Calls Tryd.prog 19 #[.slice (some ⟨w5.heap.size, 0, none⟩) 1 1] W7 fun e w' => e = .returned (.int .i64 q) ∧ Below W7.heap.size W7 w') := Lib.hid (by
          rw [← hW7, ← HQ3.out]
          exact check_big [s] _ _ (rdSp_one (heap_alloc_last w5 _)) (fun x hx => by rw [List.mem_singleton.1 hx]; exact hsn))
        have HBW := Lib.hid (show Below w.heap.size w W7 by rw [← hW7]; exact HB7.out _)
        have HW7 := Lib.hid hW7
        clear hW7
        go_wp2_with fail
        rw [HW7.out]
        refine HWC.out.mono ?_
        rintro e w8 ⟨he, hb8⟩
        subst he
        have HB8 := Lib.hid (HBW.out.trans (hb8.mono HBW.out.size))
        clear hb8
        go_wp2_with fail
        go_ret
        exact ⟨rfl, HB8.out⟩
      · have hmb : (m != 0) = true := by rw [bne_iff_ne]; exact hm0
        have HQ := Lib.hid (show q = m by have h := HQ2.out; rw [HM.out, if_pos hm0] at h; exact h.symm)
        go_wp2_with fail
        go_ret
        exact ⟨by rw [HQ.out]; rfl, HB5.out⟩
end Go.Proofs.YthineckpociomaaDoor
