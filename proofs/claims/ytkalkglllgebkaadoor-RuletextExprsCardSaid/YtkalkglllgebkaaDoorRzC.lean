/-
  The reference's numerals (sawmillref06.natural, Digits).
-/
import Derived.Test.YtkalkglllgebkaaDoorRyC
namespace Go.Proofs.YtkalkglllgebkaaDoor
open Go.RowKit Saw Go.Sort

theorem dec_lenN (u : Nat) (h : u ≤ 9223372036854775807) : (Lib.decDigits u).length ≤ 21 := by
  have := Lib.itoa_length_le (u : Int) (by omega) (by omega)
  rw [Lib.itoa, if_neg (by omega), Int.toNat_natCast] at this
  exact this
theorem natSmall_any (u : Nat) (hu : u < 10) (w : World) : Calls Tryd.prog 72 #[.int .u64 u] w fun e w' => e = .returned (.string (str (Lib.decDigits u))) ∧ w = w' := by
  rw [Lib.decDigits_one hu]
  obtain rfl | rfl | rfl | rfl | rfl | rfl | rfl | rfl | rfl | rfl : u = 0 ∨ u = 1 ∨ u = 2 ∨ u = 3 ∨ u = 4 ∨ u = 5 ∨ u = 6 ∨ u = 7 ∨ u = 8 ∨ u = 9 := by omega
  all_goals
    go_enter Tryd.func72, Tryd.ntmps72
    go_wp2_with fail
    go_ret
    exact ⟨rfl, rfl⟩
set_option maxHeartbeats 1000000 in
theorem natural_any : ∀ (N u : Nat), u ≤ N → u ≤ 9223372036854775807 → ∀ (w : World), Calls Tryd.prog 72 #[.int .u64 u] w fun e w' => e = .returned (.string (str (Lib.decDigits u))) ∧ w = w' := by
  intro N
  induction N with
  | zero => intro u h _ w; exact natSmall_any u (by omega) w
  | succ N ih =>
    intro u hu hm w
    by_cases hs : u < 10
    · exact natSmall_any u hs w
    · have hnl : ¬ (u : Int) < 10 := by omega
      have IH := Lib.hid (ih (u / 10) (by omega) (by omega))
      have IS := Lib.hid (natSmall_any (u % 10) (Nat.mod_lt _ (by decide)))
      have HD := Lib.hid (show Lib.decDigits u = Lib.decDigits (u / 10) ++ [UInt8.ofNat (48 + u % 10)] by rw [Lib.decDigits, dif_neg hs])
      have HM := Lib.hid (show Lib.decDigits (u % 10) = [UInt8.ofNat (48 + u % 10)] from Lib.decDigits_one (Nat.mod_lt _ (by decide)))
      have hl := dec_lenN (u / 10) (by omega)
      obtain ⟨s, hs'⟩ : ∃ s, Lib.decDigits (u / 10) = s := ⟨_, rfl⟩
      obtain ⟨d, hd⟩ : ∃ d, UInt8.ofNat (48 + u % 10) = d := ⟨_, rfl⟩
      rw [hs'] at hl HD IH
      rw [hd] at HD HM
      rw [HM.out] at IS
      have hz : (str s).size ≤ 21 := by rw [size_str]; exact hl
      have hz1 : (str [d]).size = 1 := rfl
      clear ih hs' hd hl hs
      go_enter Tryd.func72, Tryd.ntmps72
      go_wp2_with fail
      refine (IH.out _).mono ?_
      rintro e w1 ⟨rfl, rfl⟩
      go_wp2_with fail
      refine (IS.out _).mono ?_
      rintro e w1 ⟨rfl, rfl⟩
      go_wp2_with fail
      go_ret
      refine ⟨?_, rfl⟩
      rw [HD.out, ← str_append]
      rfl
set_option maxHeartbeats 1000000 in
theorem digits_any (n : Int) (h0 : -9223372036854775807 ≤ n) (h1 : n ≤ 9223372036854775807) (w : World) : Calls Tryd.prog 46 #[.int .i64 n] w fun e w' => e = .returned (.string (str (Lib.itoa n))) ∧ w = w' := by
  by_cases hn : n < 0
  · obtain ⟨u, rfl⟩ : ∃ u : Nat, n = -(u : Int) := ⟨n.natAbs, by omega⟩
    have IH := Lib.hid (natural_any u u (Nat.le_refl _) (by omega))
    have HD := Lib.hid (show Lib.itoa (-(u : Int)) = 45 :: Lib.decDigits u by rw [Lib.itoa, if_pos hn, Int.natAbs_neg, Int.natAbs_natCast])
    have hl := dec_lenN u (by omega)
    obtain ⟨s, hs'⟩ : ∃ s, Lib.decDigits u = s := ⟨_, rfl⟩
    rw [hs'] at hl HD IH
    have hz : (str s).size ≤ 21 := by rw [size_str]; exact hl
    clear hs' hl
    go_enter Tryd.func46, Tryd.ntmps46
    go_wp2_with fail
    rw [show (-(-(u : Int) + 1) + 1) = (u : Int) by omega]
    refine (IH.out _).mono ?_
    rintro e w1 ⟨rfl, rfl⟩
    go_wp2_with fail
    go_ret
    refine ⟨?_, rfl⟩
    rw [HD.out]
    exact congrArg (fun t => Ending.returned (.string t)) (str_append [45] s)
  · obtain ⟨u, rfl⟩ := Int.eq_ofNat_of_zero_le (Int.not_lt.1 hn)
    have IH := Lib.hid (natural_any u u (Nat.le_refl _) (by omega))
    have HD := Lib.hid (show Lib.itoa (u : Int) = Lib.decDigits u by rw [Lib.itoa, if_neg hn, Int.toNat_natCast])
    rw [HD.out]
    have hn' : ¬ (u : Int) < 0 := by omega
    go_enter Tryd.func46, Tryd.ntmps46
    go_wp2_with fail
    refine (IH.out _).mono ?_
    rintro e w1 ⟨rfl, rfl⟩
    go_wp2_with fail
    go_ret
    exact ⟨rfl, rfl⟩

end Go.Proofs.YtkalkglllgebkaaDoor
