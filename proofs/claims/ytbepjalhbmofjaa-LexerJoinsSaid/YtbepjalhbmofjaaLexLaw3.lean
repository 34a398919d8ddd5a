/-
  LexerJoins: its walk.
-/
import Derived.Test.YtbepjalhbmofjaaLexLaw2
namespace Go.Proofs.Ytbepjalhbmofjaa
open Go.RowKit Saw

theorem bts_app (a b : ByteArray) : bts (a ++ b) = bts a ++ bts b := by
  rw [← str_bts a, ← str_bts b]
  show bts (ByteArray.mk _ ++ ByteArray.mk _) = _
  rw [ByteArray.mk_append_mk]
  simp [bts, str]
theorem bts_mid (s t : ByteArray) : bts (s ++ ⟨#[10]⟩ ++ t) = bts s ++ 10 :: bts t := by
  rw [bts_app, bts_app, show bts ⟨#[10]⟩ = [10] from rfl, List.append_assoc]
  rfl

/-- What the three scans are, where both texts have no error. -/
theorem joins_plain (l r : List UInt8) (hl : l.length ≤ 3000) (hr : r.length ≤ 3000) (a b : List Lx) (ha : scanP l = (a, 0, 0)) (hb : scanP r = (b, 0, 0)) :
    ∃ xs e, a = xs ++ [e] ∧ scanP (l ++ 10 :: r) = (xs ++ b.map (lxSh (l.length + 1)), 0, 0) ∧ ∀ x ∈ b, 0 ≤ x.off ∧ x.off ≤ 3000 := by
  rw [scanP_eq l (by omega)] at ha
  rw [scanP_eq r (by omega)] at hb
  have h0 : (scanS l 0).2.1 = 0 := by rw [ha]
  obtain ⟨xs, hx, _⟩ := scanS_ne _ l 0 (Nat.le_refl _) h0
  rw [ha] at hx
  have hx' : a = xs ++ [lxEnd (0 + l.length)] := hx
  clear hx
  refine ⟨xs, _, hx', ?_, ?_⟩
  · rw [scanP_eq _ (by simp; omega), scanS_join _ l r 0 (Nat.le_refl _), if_pos h0, ha]
    simp only
    rw [hx', List.dropLast_concat, show (0 : Int) + l.length + 1 = 0 + (l.length + 1) by omega, scanS_shift _ r 0 _ (Nat.le_refl _), hb, if_pos rfl, lxAhead, if_pos rfl]
  · intro x hx
    have := scanS_bound _ r 0 (Nat.le_refl _) x (by rw [hb]; exact hx)
    omega
theorem joins_bad1 (l r : List UInt8) (hl : l.length ≤ 3000) (hr : r.length ≤ 3000) (a : List Lx) (er off : Int) (ha : scanP l = (a, er, off)) (he : er ≠ 0) : a = [] ∧ scanP (l ++ 10 :: r) = ([], er, off) := by
  rw [scanP_eq l (by omega)] at ha
  have h0 : (scanS l 0).2.1 ≠ 0 := by rw [ha]; exact he
  obtain ⟨k, _, hk2, _⟩ := scanS_bad _ l 0 (Nat.le_refl _) h0
  rw [ha] at hk2
  have hae : a = [] := congrArg Prod.fst hk2
  refine ⟨hae, ?_⟩
  rw [scanP_eq _ (by simp; omega), scanS_join _ l r 0 (Nat.le_refl _), if_neg h0, ha, hae]
theorem joins_bad2 (l r : List UInt8) (hl : l.length ≤ 3000) (hr : r.length ≤ 3000) (a b : List Lx) (er off : Int) (ha : scanP l = (a, 0, 0)) (hb : scanP r = (b, er, off)) (he : er ≠ 0) :
    scanP (l ++ 10 :: r) = ([], er, off + (l.length + 1)) ∧ 0 ≤ off ∧ off ≤ 3000 := by
  rw [scanP_eq l (by omega)] at ha
  rw [scanP_eq r (by omega)] at hb
  have h0 : (scanS l 0).2.1 = 0 := by rw [ha]
  have h1 : (scanS r 0).2.1 ≠ 0 := by rw [hb]; exact he
  obtain ⟨k, hk1, hk2, _⟩ := scanS_bad _ r 0 (Nat.le_refl _) h1
  rw [hb] at hk2
  have ho : off = 0 + (k : Int) := congrArg (fun z => z.2.2) hk2
  refine ⟨?_, by omega, by omega⟩
  rw [scanP_eq _ (by simp; omega), scanS_join _ l r 0 (Nat.le_refl _), if_pos h0, show (0 : Int) + l.length + 1 = 0 + (l.length + 1) by omega, scanS_shift _ r 0 _ (Nat.le_refl _), hb, if_neg he, lxAhead, if_neg he]

set_option maxRecDepth 100000 in
set_option maxHeartbeats 1000000 in
theorem lexerJoins_walk (s : ByteArray) (hs : s.size ≤ maxLen) (t : ByteArray) (ht : t.size ≤ maxLen) (w : World) :
    Calls Try.prog 8 #[.string s, .string t] w fun e w' => e = .returned (.bool true) ∧ Below w.heap.size w w' := by
  unfold maxLen at hs ht
  by_cases hl : 3000 < s.size ∨ 3000 < t.size
  · by_cases hl1 : 3000 < s.size
    all_goals
      go_enter Try.func8, Try.ntmps8
      go_wp2_with fail
      refine (awake_any _).mono ?_
      rintro e w1 ⟨rfl, hb1⟩
      go_wp2_with fail
      go_ret
      exact ⟨rfl, hb1⟩
  · have hl1 : s.size ≤ 3000 := by omega
    have hl2 : t.size ≤ 3000 := by omega
    have hz1 := size_bts s
    have hz2 := size_bts t
    obtain ⟨a, e1, o1, ha⟩ : ∃ a e o, scanP (bts s) = (a, e, o) := ⟨_, _, _, rfl⟩
    obtain ⟨b, e2, o2, hb⟩ : ∃ b e o, scanP (bts t) = (b, e, o) := ⟨_, _, _, rfl⟩
    have HA := Lib.hid ha
    have HB := Lib.hid hb
    by_cases he1 : e1 = 0
    · subst he1
      by_cases he2 : e2 = 0
      · subst he2
        obtain rfl : o1 = 0 := by
          have h := scanS_zero (bts s) 0 (by rw [← scanP_eq _ (by omega), ha])
          rw [← scanP_eq _ (by omega), ha] at h
          exact h
        obtain rfl : o2 = 0 := by
          have h := scanS_zero (bts t) 0 (by rw [← scanP_eq _ (by omega), hb])
          rw [← scanP_eq _ (by omega), hb] at h
          exact h
        obtain ⟨xs, en, hX, hall, hoff⟩ := joins_plain (bts s) (bts t) (by omega) (by omega) a b ha hb
        obtain ⟨X, rfl⟩ : ∃ X, a = X := ⟨_, rfl⟩
        obtain ⟨Z, hZ⟩ : ∃ Z, xs ++ b.map (lxSh ((bts s).length + 1)) = Z := ⟨_, rfl⟩
        rw [hZ] at hall
        have hXl : 0 < a.length := by rw [hX]; simp
        have hbl : 0 < b.length := by
          obtain ⟨ys, hy, _⟩ := scanS_ne _ (bts t) 0 (Nat.le_refl _) (by rw [← scanP_eq _ (by omega), hb])
          rw [← scanP_eq _ (by omega), hb] at hy
          have hy' : b = _ := hy
          rw [hy']; simp
        have hZl : Z.length + 1 = a.length + b.length := by rw [← hZ, hX]; simp; omega
        have hZlen : ((Z.length : Int) != (a.length : Int) - 1 + (b.length : Int)) = false := by rw [bne_eq_false_iff_eq]; omega
        have ha0 : ((a.length : Int) == 0) = false := by rw [beq_eq_false_iff_ne]; omega
        have hsum : (s ++ ⟨#[10]⟩ ++ t).size ≤ 9223372036854775807 := by rw [size_bts, bts_mid]; simp; omega
        rw [← bts_mid] at hall
        have HALL := Lib.hid hall
        have HX := Lib.hid hX
        have HZZ := Lib.hid hZ.symm
        have HOFF := Lib.hid hoff
        have hZle : Z.length ≤ a.length + b.length := by omega
        have hZge : a.length + b.length ≤ Z.length + 1 := by omega
        clear hall ha hb hz1 hz2 hl hX hZ hoff hZl
        go_enter Try.func8, Try.ntmps8
        go_wp2_with fail
        refine (scan_rd _ _ _ _ _ (by omega) HA.out).mono ?_
        rintro e w1 ⟨A1, c1, rfl, hr1, hb1⟩
        have HR1 := Lib.hid hr1
        have HB1 := Lib.hid hb1
        clear hb1 hr1
        go_wp2_with fail
        refine (scan_rd _ _ _ _ _ (by omega) HB.out).mono ?_
        rintro e w2 ⟨A2, c2, rfl, hr2, hb2⟩
        have HR2 := Lib.hid hr2
        have HR12 := Lib.hid (HR1.out.next hb2)
        have HB2 := Lib.hid (HB1.out.trans (hb2.mono HB1.out.size))
        clear hb2 hr2
        go_wp2_with fail
        refine (scan_rd _ _ _ _ _ hsum HALL.out).mono ?_
        rintro e w3 ⟨A3, c3, rfl, hr3, hb3⟩
        have HRX := Lib.hid (HR12.out.next hb3)
        have HRY := Lib.hid (HR2.out.next hb3)
        have HRZ := Lib.hid hr3
        have HB3 := Lib.hid (HB2.out.trans (hb3.mono HB2.out.size))
        clear hb3 hr3
        obtain ⟨_, _, _, _, hm1⟩ := HRX.out.form
        obtain ⟨_, _, _, _, hm2⟩ := HRY.out.form
        obtain ⟨_, _, _, _, hm3⟩ := HRZ.out.form
        unfold maxLen at hm1 hm2 hm3
        go_wp2_with fail
        go_loopw [14] (fun i wr => ∃ k : Nat, k ≤ Z.length ∧ i = .int .i64 k ∧ Below w3.heap.size w3 wr) (fun i _ => Z.length - (intOf i).toNat)
        case atStart => exact ⟨0, by omega, rfl, Below.refl _ _⟩
        case round =>
          obtain ⟨k, hk, rfl, hbw⟩ := hrel
          by_cases hlt : k < Z.length
          · obtain ⟨z, hz⟩ : ∃ z, Z[k]? = some z := ⟨_, List.getElem?_eq_getElem hlt⟩
            obtain ⟨bz, oz, rfl, hbz1, q0, q1, q2, q3⟩ := rdlx_at (HRZ.out.below hbw) hz
            have hbz2 : bz < wr.heap.size := Nat.lt_of_lt_of_le hbz1 hbw.size
            have HZ := Lib.hid hz
            clear hz
            have HBW := Lib.hid hbw
            by_cases hin : k + 1 < a.length
            · have hzx : a[k]? = some z := by
                have h := HZ.out
                have h1 : k < xs.length := by rw [HX.out] at hin; simp at hin; omega
                rw [HZZ.out, List.getElem?_append_left h1] at h
                rw [HX.out, List.getElem?_append_left h1]
                exact h
              obtain ⟨bx, ox, rfl, hbx1, r0, r1, r2, r3⟩ := rdlx_at (HRX.out.below hbw) hzx
              have hneq := fun W => neq_lx z z W
              have hdz : decide (z = z) = true := by simp
              simp only [hdz] at hneq
              have hgd := fun W x' y' xs ys => run_eqGuard_agg (P := Try.prog) W .neq 32 x' y' xs ys guard_lx
              have hkx : k < a.length := by omega
              clear hdz hzx hbw
              go_wp2_with fail
              go_quiet (fail)
              clear hneq hgd q0 q1 q2 q3 r0 r1 r2 r3
              go_wp2_with fail
              exact ⟨⟨k + 1, by omega, by go_num, below_drewN HBW.out nq⟩, by simp [intOf]; omega⟩
            · have hky : ∃ y, b[k + 1 - a.length]? = some y ∧ z = lxSh (s.size + 1) y := by
                have h := HZ.out
                have h1 : xs.length + 1 = a.length := by rw [HX.out]; simp
                rw [HZZ.out, List.getElem?_append_right (by omega), List.getElem?_map] at h
                rw [show k - xs.length = k + 1 - a.length by omega] at h
                cases hy : b[k + 1 - a.length]? with
                | none => rw [hy] at h; cases h
                | some y =>
                  rw [hy] at h
                  injection h with h
                  exact ⟨y, rfl, by rw [← h, size_bts]⟩
              obtain ⟨y, hy, hzy⟩ := hky
              have hyb := HOFF.out y (List.mem_of_getElem? hy)
              obtain ⟨j, hj⟩ : ∃ j, k + 1 - a.length = j := ⟨_, rfl⟩
              rw [hj] at hy
              have hjb : j < b.length := (List.getElem?_eq_some_iff.1 hy).1
              have hjk : (k : Int) - (a.length : Int) + 1 = (j : Int) := by omega
              obtain ⟨bx, ox, rfl, hbx1, r0, r1, r2, r3⟩ := rdlx_at (HRY.out.below hbw) hy
              have hbx2 : bx < wr.heap.size := Nat.lt_of_lt_of_le hbx1 hbw.size
              have hneq := fun W => neq_lx z z W
              have hdz : decide (z = z) = true := by simp
              simp only [hdz] at hneq
              have hgd := fun W x' y' xs ys => run_eqGuard_agg (P := Try.prog) W .neq 32 x' y' xs ys guard_lx
              have hoff : y.off + (s.size : Int) + 1 = z.off := by rw [hzy]; simp only [lxSh]; omega
              subst hzy
              simp only [lxSh] at q0 q1 q2 q3 hneq hoff
              have hoff2 : y.off + ((s.size : Int) + 1) = y.off + (s.size : Int) + 1 := by omega
              rw [hoff2] at q3 hneq
              clear hdz hbw hy hoff hoff2 hj
              go_wp2_with fail
              go_quiet (fail)
              clear hneq hgd q0 q1 q2 q3 r0 r1 r2 r3
              go_wp2_with fail
              exact ⟨⟨k + 1, by omega, by go_num, below_drewN (HBW.out.alloc HBW.out.size _) nq⟩, by simp [intOf]; omega⟩
          · have HBW := Lib.hid (HB3.out.trans (hbw.mono HB3.out.size))
            clear hbw
            go_wp2_with fail
            refine (awake_any _).mono ?_
            rintro e w4 ⟨rfl, hb4⟩
            have HB4 := Lib.hid (HBW.out.trans (hb4.mono HBW.out.size))
            clear hb4
            go_wp2_with fail
            go_ret
            exact ⟨rfl, HB4.out⟩
      · obtain rfl : o1 = 0 := by
          have h := scanS_zero (bts s) 0 (by rw [← scanP_eq _ (by omega), ha])
          rw [← scanP_eq _ (by omega), ha] at h
          exact h
        obtain ⟨hall, hoff0, hoff1⟩ := joins_bad2 (bts s) (bts t) (by omega) (by omega) a b e2 o2 ha hb he2
        rw [← bts_mid] at hall
        have hen : (e2 != 0) = true := by simpa using he2
        have hee : (e2 == e2) = true := by simp
        have hoo : ((o2 + (((bts s).length : Int) + 1)) == o2 + (s.size : Int) + 1) = true := by simp; omega
        have hsum : (s ++ ⟨#[10]⟩ ++ t).size ≤ 9223372036854775807 := by rw [size_bts, bts_mid]; simp; omega
        obtain ⟨o3, ho3⟩ : ∃ o3, o2 + (((bts s).length : Int) + 1) = o3 := ⟨_, rfl⟩
        rw [ho3] at hall hoo
        have HALL := Lib.hid hall
        clear hall ha hb hz1 hz2 hl ho3
        go_enter Try.func8, Try.ntmps8
        go_wp2_with fail
        refine (scan_rd _ _ _ _ _ (by omega) HA.out).mono ?_
        rintro e w1 ⟨A1, c1, rfl, hr1, hb1⟩
        have HR1 := Lib.hid hr1
        have HB1 := Lib.hid hb1
        clear hb1 hr1
        go_wp2_with fail
        refine (scan_rd _ _ _ _ _ (by omega) HB.out).mono ?_
        rintro e w2 ⟨A2, c2, rfl, hr2, hb2⟩
        have HR2 := Lib.hid hr2
        have HR12 := Lib.hid (HR1.out.next hb2)
        have HB2 := Lib.hid (HB1.out.trans (hb2.mono HB1.out.size))
        clear hb2 hr2
        go_wp2_with fail
        refine (scan_rd _ _ _ _ _ hsum HALL.out).mono ?_
        rintro e w3 ⟨A3, c3, rfl, hr3, hb3⟩
        have HRX := Lib.hid (HR12.out.next hb3)
        have HRY := Lib.hid (HR2.out.next hb3)
        have HRZ := Lib.hid hr3
        have HB3 := Lib.hid (HB2.out.trans (hb3.mono HB2.out.size))
        clear hb3 hr3
        go_wp2_with fail
        refine (awake_any _).mono ?_
        rintro e w4 ⟨rfl, hb4⟩
        have HB4 := Lib.hid (HB3.out.trans (hb4.mono HB3.out.size))
        clear hb4
        go_wp2_with fail
        go_ret
        exact ⟨rfl, HB4.out⟩
    · obtain ⟨rfl, hall⟩ := joins_bad1 (bts s) (bts t) (by omega) (by omega) a e1 o1 ha he1
      have hen : (e1 != 0) = true := by simpa using he1
      have hee : (e1 == e1) = true := by simp
      have hoo : (o1 == o1) = true := by simp
      have hsum : (s ++ ⟨#[10]⟩ ++ t).size ≤ 9223372036854775807 := by rw [size_bts, bts_mid]; simp; omega
      rw [← bts_mid] at hall
      have HALL := Lib.hid hall
      clear hall ha hb hz1 hz2 hl
      go_enter Try.func8, Try.ntmps8
      go_wp2_with fail
      refine (scan_rd _ _ _ _ _ (by omega) HA.out).mono ?_
      rintro e w1 ⟨A1, c1, rfl, hr1, hb1⟩
      have HR1 := Lib.hid hr1
      have HB1 := Lib.hid hb1
      clear hb1 hr1
      go_wp2_with fail
      refine (scan_rd _ _ _ _ _ (by omega) HB.out).mono ?_
      rintro e w2 ⟨A2, c2, rfl, hr2, hb2⟩
      have HR2 := Lib.hid hr2
      have HR12 := Lib.hid (HR1.out.next hb2)
      have HB2 := Lib.hid (HB1.out.trans (hb2.mono HB1.out.size))
      clear hb2 hr2
      go_wp2_with fail
      refine (scan_rd _ _ _ _ _ hsum HALL.out).mono ?_
      rintro e w3 ⟨A3, c3, rfl, hr3, hb3⟩
      have HRX := Lib.hid (HR12.out.next hb3)
      have HRY := Lib.hid (HR2.out.next hb3)
      have HRZ := Lib.hid hr3
      have HB3 := Lib.hid (HB2.out.trans (hb3.mono HB2.out.size))
      clear hb3 hr3
      go_wp2_with fail
      refine (awake_any _).mono ?_
      rintro e w4 ⟨rfl, hb4⟩
      have HB4 := Lib.hid (HB3.out.trans (hb4.mono HB3.out.size))
      clear hb4
      go_wp2_with fail
      go_ret
      exact ⟨rfl, HB4.out⟩

end Go.Proofs.Ytbepjalhbmofjaa
