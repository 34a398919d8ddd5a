/-
  LexerOffsets and LexerJoins: their walks.
-/
import Derived.Test.YtbepjalhbmofjaaLexLaw1
import Derived.Test.YtbepjalhbmofjaaLexV
namespace Go.Proofs.Ytbepjalhbmofjaa
open Go.RowKit Saw

set_option maxHeartbeats 400000 in
theorem between_any (s : ByteArray) (w : World) (hs : s.size ≤ 9223372036854775807) :
    Calls Try.prog 21 #[.string s] w fun e w' => e = .returned (.bool (restB false (bts s))) ∧ w' = w := by
  obtain ⟨m, hm⟩ : ∃ m, restB false (bts s) = m := ⟨_, rfl⟩
  rw [hm]
  have HM := Lib.hid hm
  clear hm
  go_enter Try.func21, Try.ntmps21
  go_wp2_with fail
  go_loop [3, 4] (fun rem i => ∃ (j : Nat) (b : Bool), j ≤ s.size ∧ i = .int .i64 j ∧ rem = .bool b ∧ restB b ((bts s).drop j) = m) (fun _ i => s.size - (intOf i).toNat)
  case atStart => exact ⟨0, false, by omega, rfl, rfl, by rw [List.drop_zero]; exact HM.out⟩
  case round =>
    obtain ⟨j, b, hj, rfl, rfl, hr⟩ := hrel
    by_cases hlt : j < s.size
    · rw [drop_cons s j hlt] at hr
      have HR := Lib.hid hr
      clear hr
      cases b
      · go_wp2
        · exact ⟨⟨j + 1, false, by omega, by go_num, rfl, by rw [← HR.out, restB_lf _ _ _ (beq_iff_eq.1 ‹_›)]⟩, by simp [intOf]; omega⟩
        · exact ⟨⟨j + 1, true, by omega, by go_num, rfl, by rw [← HR.out, restB_hash _ _ _ (beq_iff_eq.1 ‹_›)]⟩, by simp [intOf]; omega⟩
        · go_ret
          refine ⟨ret_bool ?_, rfl⟩
          rw [← HR.out, restB_out _ _ (beq_eq_false_iff_ne.1 ‹_›) (beq_eq_false_iff_ne.1 ‹_›) (bne_iff_ne.1 ‹_›)]
        · exact ⟨⟨j + 1, false, by omega, by go_num, rfl, by rw [← HR.out, restB_blank _ _ (by simpa using (show ((s[j].toNat : Int) != 32) = false by assumption))]⟩, by simp [intOf]; omega⟩
      · go_wp2
        · exact ⟨⟨j + 1, false, by omega, by go_num, rfl, by rw [← HR.out, restB_lf _ _ _ (beq_iff_eq.1 ‹_›)]⟩, by simp [intOf]; omega⟩
        · exact ⟨⟨j + 1, true, by omega, by go_num, rfl, by rw [← HR.out, restB_hash _ _ _ (beq_iff_eq.1 ‹_›)]⟩, by simp [intOf]; omega⟩
        · exact ⟨⟨j + 1, true, by omega, by go_num, rfl, by rw [← HR.out, restB_rem _ _ (beq_eq_false_iff_ne.1 ‹_›)]⟩, by simp [intOf]; omega⟩
    · rw [drop_nil s j hlt, restB_nil] at hr
      subst hr
      go_wp2
      go_ret
      exact ⟨rfl, rfl⟩

set_option maxRecDepth 100000 in
set_option maxHeartbeats 1000000 in
theorem lexerOffsets_walk (s : ByteArray) (hs : s.size ≤ maxLen) (w : World) :
    Calls Try.prog 6 #[.string s] w fun e w' => e = .returned (.bool true) ∧ Below w.heap.size w w' := by
  unfold maxLen at hs
  by_cases hl : 3000 < s.size
  · go_enter Try.func6, Try.ntmps6
    go_wp2_with fail
    refine (awake_any _).mono ?_
    rintro e w1 ⟨rfl, hb1⟩
    go_wp2_with fail
    go_ret
    exact ⟨rfl, hb1⟩
  · have hsz := size_bts s
    have heq := scanP_eq (bts s) (by omega)
    by_cases h0 : (scanS (bts s) 0).2.1 = 0
    · have hoff := scanS_offs _ (bts s) 0 0 (Nat.zero_le _) (Nat.le_refl _) rfl (by rw [List.drop_zero]; exact h0)
      rw [List.drop_zero] at hoff
      obtain ⟨xs, hx⟩ : ∃ xs, (scanS (bts s) 0).1 = xs := ⟨_, rfl⟩
      rw [hx] at hoff
      have hR : scanP (bts s) = (xs, 0, 0) := by
        rw [heq, ← hx]
        exact Prod.ext rfl (Prod.ext h0 (scanS_zero _ _ h0))
      have hxp : 0 < xs.length := by
        cases xs with
        | nil => exact hoff.elim
        | cons _ _ => simp
      have HR := Lib.hid hR
      have HOFF := Lib.hid hoff
      clear hR hoff hx h0 heq hsz
      go_enter Try.func6, Try.ntmps6
      go_wp2_with fail
      refine (scan_rd _ _ _ _ _ (by omega) HR.out).mono ?_
      rintro e w1 ⟨A, c, rfl, hrd, hb1⟩
      obtain ⟨_, _, _, _, hxm⟩ := hrd.form
      unfold maxLen at hxm
      have HRD := Lib.hid hrd
      have HB1 := Lib.hid hb1
      clear hrd hb1
      go_wp2_with fail
      go_loopw [6, 7] (fun f i wr => ∃ k j : Nat, k ≤ xs.length ∧ i = .int .i64 k ∧ f = .int .i64 j ∧ j ≤ s.size ∧ Below w1.heap.size w1 wr ∧ ((k < xs.length ∧ offsOK (bts s) j (xs.drop k)) ∨ (k = xs.length ∧ j = s.size))) (fun _ i _ => xs.length - (intOf i).toNat)
      case atStart => exact ⟨0, 0, by omega, rfl, rfl, by omega, Below.refl _ _, .inl ⟨hxp, HOFF.out⟩⟩
      case round =>
        obtain ⟨k, j, hk, rfl, rfl, hj, hbw, hrel⟩ := hrel
        by_cases hlt : k < xs.length
        · obtain ⟨x, hx⟩ : ∃ x, xs[k]? = some x := ⟨_, List.getElem?_eq_getElem hlt⟩
          obtain ⟨b, off, rfl, hb1, q0, q1, q2, q3⟩ := rdlx_at (HRD.out.below hbw) hx
          have hb2 : b < wr.heap.size := Nat.lt_of_lt_of_le hb1 hbw.size
          have hdr : xs.drop k = x :: xs.drop (k + 1) := by
            rw [List.drop_eq_getElem_cons hlt]
            rw [List.getElem?_eq_getElem hlt] at hx
            rw [Option.some.inj hx]
          -- what the plain law says of this lexeme
          have hof : offsOK (bts s) j (xs.drop k) := by
            rcases hrel with h | h
            · exact h.2
            · omega
          rw [hdr] at hof
          obtain ⟨i, hxo, hsk, hfit, htk, hkind, hnext⟩ : ∃ i : Nat, x.off = ((j + i : Nat) : Int) ∧ restB false (((bts s).drop j).take i) = true ∧ j + i + x.text.length ≤ s.size ∧ ((bts s).drop (j + i)).take x.text.length = x.text ∧
              ((x.kind = 0 ∧ x.text = [] ∧ k + 1 = xs.length) ∨ (x.kind ≠ 0 ∧ x.text ≠ [] ∧ k + 1 < xs.length)) ∧ ((k + 1 < xs.length ∧ offsOK (bts s) (j + i + x.text.length) (xs.drop (k + 1))) ∨ (k + 1 = xs.length ∧ j + i + x.text.length = s.size)) := by
            cases hxd : xs.drop (k + 1) with
            | nil =>
              rw [hxd] at hof
              have hke : xs.length ≤ k + 1 := List.drop_eq_nil_iff.1 hxd
              obtain ⟨h1, h2, h3, h4, h5⟩ := hof
              rw [← size_bts] at h3 h4 h5
              refine ⟨s.size - j, by rw [h3]; omega, ?_, by rw [h2]; simp; omega, by rw [h2]; simp, .inl ⟨h1, h2, by omega⟩, .inr ⟨by omega, by rw [h2]; simp; omega⟩⟩
              rw [List.take_of_length_le (by rw [List.length_drop, ← size_bts]; omega), restB, h5, List.length_drop, ← size_bts]
              simp
            | cons y r =>
              rw [hxd] at hof
              have hke : k + 1 < xs.length := by
                rcases Nat.lt_or_ge (k + 1) xs.length with h | h
                · exact h
                · rw [List.drop_eq_nil_of_le h] at hxd; cases hxd
              obtain ⟨h1, h2, i, h3, h4, h5, h6, h7⟩ := hof
              rw [← size_bts] at h5
              refine ⟨i, h3, ?_, h5, h6, .inr ⟨h1, h2, hke⟩, .inl ⟨hke, h7⟩⟩
              rw [restB, h4, List.length_take, List.length_drop, ← size_bts]
              simp; omega
          clear hof hrel hdr
          have hsz : (str x.text).size = x.text.length := size_str _
          obtain ⟨m, hm⟩ : ∃ m, x.text.length = m := ⟨_, rfl⟩
          rw [hm] at hsz hfit hnext
          obtain ⟨t, ht⟩ : ∃ t, str x.text = t := ⟨_, rfl⟩
          obtain ⟨p, hp⟩ : ∃ p, j + i = p := ⟨_, rfl⟩
          have hjp : j ≤ p := by omega
          have hbt : restB false (bts (s.extract j p)) = true := by
            rw [← hp, take_at, bts_str]; exact hsk
          have hbz : (s.extract j p).size ≤ 9223372036854775807 := by
            rw [← hp, take_at, size_str, List.length_take, List.length_drop, ← size_bts]; omega
          rw [hp] at hxo hfit htk hnext
          have hsl : ((s.extract p (p + t.size)).toList == t.toList) = true := by
            rw [← ht, hsz, take_at, toList_bts, toList_bts, bts_str, bts_str, ← hm, htk]
            simp
          have hte : t.toList = x.text := by rw [← ht, toList_bts, bts_str]
          rw [ht] at hsz q1
          have htz1 : t.size ≤ m := by omega
          have htz2 : m ≤ t.size := by omega
          rw [hxo] at q3
          have HX := Lib.hid hx
          have HBT := Lib.hid hbt
          have HN := Lib.hid hnext
          clear hx hsz hm ht htk hsk hbt hnext hxo hp
          have hps : p + t.size ≤ s.size := by omega
          have hg1 : decide (p < j) = false := by simp; omega
          have hg1' : decide ((p : Int) < (j : Int)) = false := by simp; omega
          have hg2 : decide ((s.size : Int) < (p : Int) + (t.size : Int)) = false := by simp; omega
          have hend : ((x.kind == 0) = true ∧ t.toList.isEmpty = true ∧ ((k : Int) == (xs.length : Int) - 1) = true ∧ (t.toList == []) = true) ∨ ((x.kind == 0) = false ∧ t.toList.isEmpty = false ∧ ((k : Int) == (xs.length : Int) - 1) = false ∧ (t.toList == []) = false) := by
            rw [hte]
            rcases hkind with ⟨h1, h2, h3⟩ | ⟨h1, h2, h3⟩
            · left
              exact ⟨by simpa using h1, by rw [h2]; rfl, by simp; omega, by rw [h2]; rfl⟩
            · right
              refine ⟨by simpa using h1, ?_, by simp; omega, by simpa using h2⟩
              cases hx2 : x.text with
              | nil => exact absurd hx2 h2
              | cons _ _ => rfl
          clear hkind hte
          have hwrp : IntKind.i64.wrap ((p : Int) + (t.size : Int)) = (p : Int) + (t.size : Int) := IntWalk.i64_in _ (by omega)
          have HBW := Lib.hid hbw
          go_wp2_with fail
          go_quiet ((go_at_call 21; exact Calls.quiet_of_same (between_any _ _ hbz)))
          rw [HBT.out]
          clear hwrp hg1 hg1' hg2 hsl
          have HBW2 := Lib.hid (below_drewN (HBW.out.alloc HBW.out.size (.cells #[.int .i64 x.kind, .string t, .int .i64 x.num, .int .i64 p] 32)) nq)
          rcases hend with ⟨he1, he2, he3, he4⟩ | ⟨he1, he2, he3, he4⟩
          all_goals
            go_wp2_with fail
            refine ⟨⟨k + 1, p + m, by omega, by go_num, ?_, by omega, HBW2.out, HN.out⟩, by simp [intOf]; omega⟩
            congr 1
            omega
        · have hj2 : j = s.size := by
            rcases hrel with h | h
            · omega
            · exact h.2
          have hje : ((j : Int) == (s.size : Int)) = true := by rw [hj2]; simp
          have hjs1 : j ≤ s.size := by omega
          have hjs2 : s.size ≤ j := by omega
          have HBW := Lib.hid (HB1.out.trans (hbw.mono HB1.out.size))
          clear hj2 hrel hbw
          go_wp2_with fail
          refine (awake_any _).mono ?_
          rintro e w2 ⟨rfl, hb2⟩
          have HB2 := Lib.hid (HBW.out.trans (hb2.mono HBW.out.size))
          clear hb2
          go_wp2_with fail
          go_ret
          exact ⟨rfl, HB2.out⟩
    · obtain ⟨k, hk1, hk2, _⟩ := scanS_bad _ (bts s) 0 (Nat.le_refl _) h0
      obtain ⟨er, her⟩ : ∃ er, (scanS (bts s) 0).2.1 = er := ⟨_, rfl⟩
      rw [her] at hk2 h0
      have hR : scanP (bts s) = ([], er, 0 + (k : Int)) := by rw [heq, hk2]
      have hne : (er != 0) = true := by simpa using h0
      have HR := Lib.hid hR
      clear hR h0 heq hsz hk2 her hk1
      go_enter Try.func6, Try.ntmps6
      go_wp2_with fail
      refine (scan_rd _ _ _ _ _ (by omega) HR.out).mono ?_
      rintro e w1 ⟨A, c, rfl, _, hb1⟩
      have HB1 := Lib.hid hb1
      clear hb1
      go_wp2_with fail
      refine (awake_any _).mono ?_
      rintro e w2 ⟨rfl, hb2⟩
      have HB2 := Lib.hid (HB1.out.trans (hb2.mono HB1.out.size))
      clear hb2
      go_wp2_with fail
      go_ret
      exact ⟨rfl, HB2.out⟩

end Go.Proofs.Ytbepjalhbmofjaa
