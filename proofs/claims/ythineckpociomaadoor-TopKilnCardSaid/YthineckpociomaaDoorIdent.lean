/-
  The contract of ident.IsName.
-/
import Derived.Test.YthineckpociomaaDoorBase
namespace Go.Proofs.YthineckpociomaaDoor
open Go.RowKit Saw

set_option maxHeartbeats 400000 in
theorem isSmall_any (c : Int) (w : World) :
    Calls Tryd.prog 47 #[.int .u8 c] w fun e w' => e = .returned (.bool (smallI c)) ∧ w = w' := by
  go_enter Tryd.func47, Tryd.ntmps47
  go_wp2
  all_goals
    go_ret
    refine ⟨ret_bool ?_, rfl⟩
    rw [Bool.eq_iff_iff]; simp [smallI]; omega
set_option maxHeartbeats 400000 in
theorem identDigit_any (c : Int) (w : World) :
    Calls Tryd.prog 48 #[.int .u8 c] w fun e w' => e = .returned (.bool (digI c)) ∧ w = w' := by
  go_enter Tryd.func48, Tryd.ntmps48
  go_wp2
  all_goals
    go_ret
    refine ⟨ret_bool ?_, rfl⟩
    rw [Bool.eq_iff_iff]; simp [digI]; omega

theorem name_head {s : ByteArray} (h : 0 < s.size) : isNameP (bts s) = (decide (s.size ≤ 16) && smallI (s[0].toNat) && ((bts s).drop 1).all fun d => nameI d.toNat) := by
  have h1 := drop_cons s 0 h
  rw [List.drop_zero] at h1
  conv => lhs; rw [h1]
  rw [isNameP, ← h1, ← size_bts]

set_option maxHeartbeats 400000 in
theorem isName_any (s : ByteArray) (w : World) (hs : s.size ≤ 9223372036854775807) :
    Calls Tryd.prog 32 #[.string s] w fun e w' => e = .returned (.bool (isNameP (bts s))) ∧ w = w' := by
  by_cases h0 : 0 < s.size
  · have hn := name_head h0
    obtain ⟨q, hq⟩ : ∃ q, isNameP (bts s) = q := ⟨_, rfl⟩
    rw [hq] at hn ⊢
    have HN := Lib.hid hn
    clear hn hq
    by_cases h16 : s.size ≤ 16
    · have hb : s[0].toNat < 256 := s[0].toNat_lt
      cases hc : smallI (s[0].toNat)
      · have hq : q = false := by rw [HN.out, hc]; simp
        subst hq
        clear HN
        go_enter Tryd.func32, Tryd.ntmps32
        go_wp2_with (go_at_call 47; refine (isSmall_any _ _).mono ?_; rintro e w' ⟨rfl, rfl⟩)
        go_ret
        exact ⟨rfl, rfl⟩
      · have hq : q = ((bts s).drop 1).all fun d => nameI d.toNat := by rw [HN.out, hc]; simp [h16]
        have HQ := Lib.hid hq
        clear HN hq
        go_enter Tryd.func32, Tryd.ntmps32
        go_wp2_with (go_at_call 47; refine (isSmall_any _ _).mono ?_; rintro e w' ⟨rfl, rfl⟩)
        go_loop [3] (fun i => ∃ j : Nat, 1 ≤ j ∧ j ≤ s.size ∧ i = .int .i64 j ∧ (((bts s).drop j).all fun d => nameI d.toNat) = q) (fun i => s.size - (intOf i).toNat)
        case atStart => exact ⟨1, Nat.le_refl _, by omega, rfl, HQ.out.symm⟩
        case round =>
          obtain ⟨j, hj1, hj, rfl, hr⟩ := hrel
          by_cases hlt : j < s.size
          · rw [drop_cons s j hlt, List.all_cons] at hr
            have hb2 : s[j].toNat < 256 := s[j].toNat_lt
            cases hnm : nameI (s[j].toNat)
            · have hq : q = false := by rw [← hr, hnm]; rfl
              subst hq
              have hn2 : smallI (s[j].toNat) = false ∧ digI (s[j].toNat) = false ∧ ((s[j].toNat : Int) != 95) = true := by
                simp only [nameI, Bool.or_eq_false_iff] at hnm
                exact ⟨hnm.1.1, hnm.1.2, by simpa using hnm.2⟩
              obtain ⟨n1, n2, n3⟩ := hn2
              clear hnm hr
              go_wp2_with (first | (go_at_call 47; refine (isSmall_any _ _).mono ?_; rintro e w' ⟨rfl, rfl⟩) | (go_at_call 48; refine (identDigit_any _ _).mono ?_; rintro e w' ⟨rfl, rfl⟩))
              go_ret
              exact ⟨rfl, rfl⟩
            · have hrest : (((bts s).drop (j + 1)).all fun d => nameI d.toNat) = q := by rw [← hr, hnm]; simp
              have HREST := Lib.hid hrest
              have hn2 : smallI (s[j].toNat) = true ∨ smallI (s[j].toNat) = false ∧ (digI (s[j].toNat) = true ∨ digI (s[j].toNat) = false ∧ ((s[j].toNat : Int) != 95) = false) := by
                simp only [nameI, Bool.or_eq_true] at hnm
                cases hsm : smallI (s[j].toNat)
                · right
                  cases hdg : digI (s[j].toNat)
                  · exact ⟨rfl, .inr ⟨rfl, by simpa [hsm, hdg] using hnm⟩⟩
                  · exact ⟨rfl, .inl rfl⟩
                · left; rfl
              clear hnm hr hrest
              rcases hn2 with n1 | ⟨n1, n2 | ⟨n2, n3⟩⟩
              all_goals
                go_wp2_with (first | (go_at_call 47; refine (isSmall_any _ _).mono ?_; rintro e w' ⟨rfl, rfl⟩) | (go_at_call 48; refine (identDigit_any _ _).mono ?_; rintro e w' ⟨rfl, rfl⟩))
                exact ⟨⟨j + 1, by omega, by omega, by go_num, HREST.out⟩, by simp [intOf]; omega⟩
          · rw [drop_nil s j hlt] at hr
            have hq : q = true := by rw [← hr]; rfl
            subst hq
            clear hr HQ
            go_wp2_with fail
            go_ret
            exact ⟨rfl, rfl⟩
    · have hq : q = false := by rw [HN.out]; simp [h16]
      subst hq
      clear HN
      go_enter Tryd.func32, Tryd.ntmps32
      go_wp2_with fail
      go_ret
      exact ⟨rfl, rfl⟩
  · have hn : isNameP (bts s) = false := by
      have : bts s = [] := List.eq_nil_of_length_eq_zero (by rw [← size_bts]; omega)
      rw [this]; rfl
    rw [hn]
    clear hn
    go_enter Tryd.func32, Tryd.ntmps32
    go_wp2_with fail
    go_ret
    exact ⟨rfl, rfl⟩

end Go.Proofs.YthineckpociomaaDoor
