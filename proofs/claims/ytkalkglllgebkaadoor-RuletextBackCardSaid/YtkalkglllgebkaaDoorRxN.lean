/-
  The parser's method factor reads what rd says (package ruletext).
-/
import Derived.Test.YtkalkglllgebkaaDoorRxB
import Derived.Test.YtkalkglllgebkaaDoorIdent
namespace Go.Proofs.YtkalkglllgebkaaDoor
open Go.RowKit Saw

set_option maxHeartbeats 1000000 in
theorem isNm_any (s : ByteArray) (w : World) (hs : s.size ≤ 9223372036854775807) : Calls Tryd.prog 56 #[.string s] w fun e w' => e = .returned (.bool (namedP (bts s))) ∧ w = w' := by
  have HN := Lib.hid (isName_any s w hs)
  obtain ⟨q, hq⟩ : ∃ q, isNameP (bts s) = q := ⟨_, rfl⟩
  rw [hq] at HN
  go_enter Tryd.func56, Tryd.ntmps56
  go_wp2_with (go_at_call 86; refine HN.out.mono ?_; rintro e w1 ⟨he, rfl⟩; subst he)
  all_goals
    go_ret
    refine ⟨ret_bool ?_, rfl⟩
    rw [namedP, hq, ← toList_bts, andW, orW, notW, whenW, gradeW]
    first | (simp only [*, Bool.or_false, Bool.true_or, Bool.or_true, Bool.not_true, Bool.not_false, Bool.and_true, Bool.and_false]; done) | (exfalso; simp_all)

set_option maxRecDepth 100000 in
set_option maxHeartbeats 1000000 in
theorem fact_step {xs : List Lx} (hx : XsOk xs) {n : Nat} (IH : ∀ m, m ≤ n → RdCalls xs m) (k : Nat) (r : RR) (h : rd xs (n + 1) .fact k = some r) (hkx : k < xs.length)
    (w : World) (rb : Nat) (lv : Value) (hr : IsRx w rb lv k) (hl : RdXs w rb lv xs) : Calls Tryd.prog 127 #[.pointer (some ⟨rb, 0, none⟩)] w (RdPost w rb lv r) := by
  rw [rd] at h
  have hxm := hx.2.1
  have HI := Lib.hid (IH n (Nat.le_refl _))
  have HS := Lib.hid (NSt.first_ (z := #[.int .i64 0, .int .i64 0, .string ⟨#[]⟩, .slice none 0 0]) rfl hr)
  have HL := Lib.hid hl
  have HX := Lib.hid hx
  clear IH hr hl hx
  obtain ⟨y, hy⟩ : ∃ y, lxAt xs k = y := ⟨_, rfl⟩
  have HY := Lib.hid hy
  rw [hy] at h
  have HH := Lib.hid h
  clear h
  go_enter Tryd.func127, Tryd.ntmps127
  go_wp2_with fail
  refine (next_rx _ rb lv k xs HS.out.1 (HS.out.rdx HL.out) hkx hxm).mono ?_
  rintro e w1 ⟨he, hb⟩
  rw [hy] at he
  subst he
  have hS1 := LSt.first_ (y := y) (HS.out.below hb)
  go_upto_region 2 with fail
  obtain ⟨g, hg⟩ : ∃ g, w1.heap.size = g := ⟨_, rfl⟩
  obtain ⟨W1, hW1⟩ : ∃ W, w1.alloc (.cells #[.int .i64 y.kind, .string (str y.text), .int .i64 y.num, .int .i64 y.off] 49) = W := ⟨_, rfl⟩
  rw [hg, hW1] at hS1 ⊢
  have HS1 := Lib.hid hS1
  clear hb HS hy hS1 hW1
  obtain ⟨c0, c1, f1, hlt1⟩ := HS1.out.1.1.cells
  obtain ⟨d0, d1, d2, d3, hlt2⟩ := HS1.out.cells
  have HP := Lib.hid (HS1.out.pos (k + 1))
  obtain ⟨cs, hcs, hres⟩ := HP.out.1.2.2.2.2
  have HCS := Lib.hid hcs
  have HRES := Lib.hid (show (W1.setCell ⟨rb, 1, none⟩ (.int .i64 ((k : Int) + 1))).heap[w.heap.size]? = some (.cells cs 24 (0, 0)) from hres)
  clear hcs hres
  by_cases hk2 : y.kind = 2
  · have h9 := HH.out
    rw [if_pos hk2] at h9
    injection h9 with h9
    subst h9
    have hkb : (y.kind == 2) = true := by rw [beq_iff_eq]; exact hk2
    clear HH hk2
    go_wp2_with (first
      | ((with_reducible refine ex_put w.heap.size ⟨1, y.num, [], .nil⟩ (.slice none 0 0) rfl ?hx ?hy HRES.out HCS ?_); (case hx => rfl); (case hy => rfl)))
    obtain ⟨p1, p2, p3, p4⟩ := HP.out.1.leave (x := ⟨1, y.num, [], .nil⟩) (RdFo.none_ _ (fun _ => False)) nofun
    exact bodyPost_ret (ex_res Tryd.results127 _ _ w.heap.size rfl p1) rfl ⟨p2, _, _, rfl, p3, p4⟩
  · have hkb : (y.kind == 2) = false := by rw [beq_eq_false_iff_ne]; exact hk2
    have h9 := HH.out
    rw [if_neg hk2] at h9
    by_cases hk1 : y.kind = 1
    · rw [if_pos hk1] at h9
      have hk1b : (y.kind == 1) = true := by rw [beq_iff_eq]; exact hk1
      have HT := Lib.hid (isNm_any (str y.text) W1 (by rw [size_str]; have := HX.out.text hkx; rw [HY.out] at this; omega))
      rw [bts_str] at HT
      have HF := Lib.hid (fail_rx W1 rb lv k xs 6 HS1.out.1.1 (HS1.out.1.rdx HL.out) hkx hxm)
      rw [HY.out] at HF
      have HH2 := Lib.hid h9
      clear HH hk2 hk1 h9
      go_wp2_with fail
      refine HT.out.mono ?_
      rintro e w2 ⟨he, rfl⟩
      obtain ⟨q, hq⟩ : ∃ q, namedP y.text = q := ⟨_, rfl⟩
      rw [hq] at he HH2
      subst he
      cases q with
      | true =>
        have h9 := HH2.out
        rw [if_pos rfl] at h9
        injection h9 with h9
        subst h9
        have e1 : (W1.setCell ⟨rb, 1, none⟩ (.int .i64 ((k : Int) + 1))).cell? ⟨g, 1, none⟩ = some (.string (str y.text)) := HP.out.cells.2.1
        clear HH2
        go_wp2_with (first
          | ((with_reducible refine ex_put w.heap.size ⟨2, 0, y.text, .nil⟩ (.slice none 0 0) rfl ?hx ?hy HRES.out HCS ?_); (case hx => rfl); (case hy => rfl)))
        obtain ⟨p1, p2, p3, p4⟩ := HP.out.1.leave (x := ⟨2, 0, y.text, .nil⟩) (RdFo.none_ _ (fun _ => False)) nofun
        exact bodyPost_ret (ex_res Tryd.results127 _ _ w.heap.size rfl p1) rfl ⟨p2, _, _, rfl, p3, p4⟩
      | false =>
        have h9 := HH2.out
        rw [if_neg (by decide)] at h9
        injection h9 with h9
        subst h9
        clear HH2
        go_wp2_with fail
        refine HF.out.mono ?_
        rintro e w3 ⟨he, hb⟩
        subst he
        exact ⟨rfl, gb_belowS HS1.out.1.2.1 hb, rfl⟩
    · rw [if_neg hk1] at h9
      have hk1b : (y.kind == 1) = false := by rw [beq_eq_false_iff_ne]; exact hk1
      have HH2 := Lib.hid h9
      clear HH hk2 hk1 h9
      go_wp2_with fail
      refine (isMark_rx _ rb lv k xs _ HS1.out.1.1 (HS1.out.1.rdx HL.out) hkx hxm).mono ?_
      rintro e w2 ⟨he, hb⟩
      have HS2 := Lib.hid (HS1.out.below hb)
      clear hb HS1 c0 c1 f1 hlt1 d0 d1 d2 d3 hlt2 HP HRES HCS
      obtain ⟨q, hq⟩ : ∃ q, isMk xs k [45] = q := ⟨_, rfl⟩
      rw [show isMk xs k (bts ⟨#[45]⟩) = q from hq] at he
      rw [hq] at HH2
      subst he
      cases q with
      | true =>
        have hk3 := isMk_in HX.out.1 hkx hq
        obtain ⟨c0, c1', f1, hlt1⟩ := HS2.out.1.1.cells
        rw [if_pos rfl] at HH2
        go_upto_region 12 with fail
        have hS3 := HS2.out.pos (k + 1)
        obtain ⟨W3, hW3⟩ : ∃ W, w2.setCell ⟨rb, 1, none⟩ (.int .i64 ((k : Int) + 1)) = W := ⟨_, rfl⟩
        rw [show w2.setCell ⟨rb, 1, none⟩ (.int .i64 ((k + 1 : Nat) : Int)) = W3 from hW3] at hS3
        rw [hW3]
        have HS3 := Lib.hid hS3.1
        clear hS3 hW3 HS2 c0 c1' f1 hlt1 hq
        go_wp2_with fail
        refine (next_rx _ rb lv (k + 1) xs HS3.out.1 (HS3.out.rdx HL.out) hk3 hxm).mono ?_
        rintro e w4 ⟨he, hb⟩
        obtain ⟨z, hz⟩ : ∃ z, lxAt xs (k + 1) = z := ⟨_, rfl⟩
        have hzn := HX.out.num hk3
        have HZ := Lib.hid hz
        rw [hz] at he HH2 hzn
        subst he
        have hS4 := LSt.first_ (y := z) (HS3.out.below hb)
        go_upto_region 13 with fail
        obtain ⟨g4, hg4⟩ : ∃ g, w4.heap.size = g := ⟨_, rfl⟩
        obtain ⟨W4, hW4⟩ : ∃ W, w4.alloc (.cells #[.int .i64 z.kind, .string (str z.text), .int .i64 z.num, .int .i64 z.off] 49) = W := ⟨_, rfl⟩
        rw [hg4, hW4] at hS4 ⊢
        have HS4 := Lib.hid hS4
        clear hb HS3 hz hS4 hW4 hg4
        obtain ⟨d0, d1, d2, d3, hlt2⟩ := HS4.out.cells
        obtain ⟨ok, hok⟩ : ∃ ok, (z.kind == 2 && z.num != 0) = ok := ⟨_, rfl⟩
        have HE := Lib.hid (expect_rx W4 rb lv (k + 1) xs ok HS4.out.1.1 (HS4.out.1.rdx HL.out) hk3 hxm)
        rw [HZ.out] at HE
        have hHH := HH2.out
        cases ok with
        | true =>
          rw [Bool.and_eq_true, beq_iff_eq, bne_iff_ne] at hok
          rw [if_pos hok] at hHH
          injection hHH with hHH
          subst hHH
          have hz2 : (z.kind == 2) = true := by rw [beq_iff_eq]; exact hok.1
          have hz0 : (z.num != 0) = true := by rw [bne_iff_ne]; exact hok.2
          clear hok HH2
          go_wp2_with fail
          refine HE.out.mono ?_
          rintro e w5 ⟨hg, hp⟩
          rw [if_pos rfl] at hp
          obtain ⟨he, hr5⟩ := hp
          subst he
          have HS5 := Lib.hid (HS4.out.call hr5 hg)
          obtain ⟨b0, b1, b2, b3, hlt5⟩ := HS5.out.cells
          obtain ⟨cs, hcs, hres⟩ := HS5.out.1.2.2.2.2
          have HCS := Lib.hid hcs
          have HRES := Lib.hid hres
          clear hcs hres hg hr5
          go_wp2_with (first
            | ((with_reducible refine ex_put w.heap.size ⟨1, -z.num, [], .nil⟩ (.slice none 0 0) rfl ?hx ?hy HRES.out HCS ?_); (case hx => rfl); (case hy => rfl)))
          obtain ⟨p1, p2, p3, p4⟩ := HS5.out.1.leave (x := ⟨1, -z.num, [], .nil⟩) (RdFo.none_ _ (fun _ => False)) nofun
          exact bodyPost_ret (ex_res Tryd.results127 _ _ w.heap.size rfl p1) rfl ⟨p2, _, _, rfl, p3, p4⟩
        | false =>
          have hno : ¬ (z.kind = 2 ∧ z.num ≠ 0) := fun h8 => by
            rw [beq_iff_eq.2 h8.1, bne_iff_ne.2 h8.2] at hok; cases hok
          rw [if_neg hno] at hHH
          injection hHH with hHH
          subst hHH
          clear hno HH2
          by_cases hz2 : z.kind = 2
          · have hz2b : (z.kind == 2) = true := by rw [beq_iff_eq]; exact hz2
            have hz0 : (z.num != 0) = false := by rw [hz2b, Bool.true_and] at hok; exact hok
            clear hok hz2
            go_wp2_with fail
            refine HE.out.mono ?_
            rintro e w5 ⟨hg, hp⟩
            rw [if_neg (by decide)] at hp
            subst hp
            exact ⟨rfl, gb_trans HS4.out.1.2.1 hg, rfl⟩
          · have hz2b : (z.kind == 2) = false := by rw [beq_eq_false_iff_ne]; exact hz2
            clear hok hz2
            go_wp2_with fail
            refine HE.out.mono ?_
            rintro e w5 ⟨hg, hp⟩
            rw [if_neg (by decide)] at hp
            subst hp
            exact ⟨rfl, gb_trans HS4.out.1.2.1 hg, rfl⟩
      | false =>
        rw [if_neg (by decide)] at HH2
        go_wp2_with fail
        refine (isMark_rx _ rb lv k xs _ HS2.out.1.1 (HS2.out.1.rdx HL.out) hkx hxm).mono ?_
        rintro e w3 ⟨he, hb⟩
        have HS3 := Lib.hid (HS2.out.below hb)
        clear hb HS2 hq
        obtain ⟨q, hq⟩ : ∃ q, isMk xs k [40] = q := ⟨_, rfl⟩
        rw [show isMk xs k (bts ⟨#[40]⟩) = q from hq] at he
        rw [hq] at HH2
        subst he
        have HE := Lib.hid (expect_rx w3 rb lv k xs q HS3.out.1.1 (HS3.out.1.rdx HL.out) hkx hxm)
        rw [HY.out] at HE
        go_wp2_with fail
        refine HE.out.mono ?_
        rintro e w4 ⟨hg, hp⟩
        cases q with
        | false =>
          rw [if_neg (by decide)] at hp
          have hHH := HH2.out
          rw [if_neg (by decide)] at hHH
          injection hHH with hHH
          subst hHH
          subst hp
          exact ⟨rfl, gb_trans HS3.out.1.2.1 hg, rfl⟩
        | true =>
          rw [if_pos rfl] at hp HH2
          obtain ⟨he, hr4⟩ := hp
          subst he
          have hk3 := isMk_in HX.out.1 hkx hq
          have HS4 := Lib.hid (HS3.out.1.call hr4 hg)
          clear hg hr4 HS3 hq HE
          go_wp2_with fail
          rcases andThen_some HH2.out with ⟨er, off, h1, rfl⟩ | ⟨x, k2, h1, h2⟩
          · refine (HI.out .expr _ rfl _ _ h1 hk3 _ rb lv HS4.out.1 (HS4.out.rdx HL.out)).mono ?_
            rintro e w5 ⟨hg, he⟩
            subst he
            exact ⟨rfl, gb_trans HS4.out.2.1 hg, rfl⟩
          · refine (HI.out .expr _ rfl _ _ h1 hk3 _ rb lv HS4.out.1 (HS4.out.rdx HL.out)).mono ?_
            rintro e w5 ⟨hg, A2, c2, he, hy, hr5⟩
            subst he
            have HK2 := Lib.hid (rd_in HX.out.1 _ _ _ _ _ hk3 h1)
            have hS5 := ESt.later_ HS4.out hr5 hg hy
            have H2 := Lib.hid h2
            clear hg hy hr5 h1 h2 HH2 HS4
            go_upto_region 17 with fail
            obtain ⟨g5, hg5⟩ : ∃ g, w5.heap.size = g := ⟨_, rfl⟩
            obtain ⟨W5, hW5⟩ : ∃ W, w5.alloc (.cells #[.int .i64 x.op, .int .i64 x.n, .string (str x.name), .slice A2 x.kids.toList.length c2] 24) = W := ⟨_, rfl⟩
            rw [hg5, show w5.alloc (.cells (exArr x (.slice A2 x.kids.toList.length c2)) 24) = W5 from hW5] at hS5
            rw [hg5, hW5]
            have HS5 := Lib.hid hS5
            clear hS5 hW5 hg5
            go_wp2_with fail
            refine (isMark_rx _ rb lv k2 xs _ HS5.out.1 (HS5.out.rdx HL.out) HK2.out.2 hxm).mono ?_
            rintro e w6 ⟨he, hb⟩
            have HS6 := Lib.hid (HS5.out.below hb)
            clear hb HS5
            obtain ⟨q, hq⟩ : ∃ q, isMk xs k2 [41] = q := ⟨_, rfl⟩
            rw [show isMk xs k2 (bts ⟨#[41]⟩) = q from hq] at he
            rw [hq] at H2
            subst he
            have HE := Lib.hid (expect_rx w6 rb lv k2 xs q HS6.out.1 (HS6.out.rdx HL.out) HK2.out.2 hxm)
            go_wp2_with fail
            refine HE.out.mono ?_
            rintro e w7 ⟨hg, hp⟩
            have hHH := H2.out
            cases q with
            | false =>
              rw [if_neg (by decide)] at hp hHH
              injection hHH with hHH
              subst hHH
              subst hp
              exact ⟨rfl, gb_trans HS6.out.2.1 hg, rfl⟩
            | true =>
              rw [if_pos rfl] at hp hHH
              injection hHH with hHH
              subst hHH
              obtain ⟨he, hr7⟩ := hp
              subst he
              have HS7 := Lib.hid (HS6.out.call hr7 hg)
              have HG := Lib.hid HS7.out.at_g
              obtain ⟨cs, hcs, hres⟩ := HS7.out.2.2.2.1
              have HCS := Lib.hid hcs
              have HRES := Lib.hid hres
              clear hcs hres hg hr7 hq
              go_wp2_with (first
                | ((with_reducible refine ex_load g5 0 x (.slice A2 x.kids.toList.length c2) ?hx HG.out ?_); (case hx => rfl))
                | ((with_reducible refine ex_put w.heap.size x (.slice A2 x.kids.toList.length c2) rfl ?hx ?hy HRES.out HCS ?_); (case hx => rfl); (case hy => rfl)))
              obtain ⟨p1, p2, p3, p4⟩ := HS7.out.leave
              exact bodyPost_ret (ex_res Tryd.results127 _ _ w.heap.size rfl p1) rfl ⟨p2, _, _, rfl, p3, p4⟩

end Go.Proofs.YtkalkglllgebkaaDoor
