/-
  The contracts of the lexer's small functions: isLetter, isDigit, isPart, skip, run.
-/
import Derived.Test.YtkalkglllgebkaaDoorBase
namespace Go.Proofs.YtkalkglllgebkaaDoor
open Go.RowKit Saw

set_option maxHeartbeats 400000 in
theorem isDigit_any (c : Int) (w : World) :
    Calls Tryd.prog 79 #[.int .i32 c] w fun e w' => e = .returned (.bool (digI c)) ∧ w = w' := by
  go_enter Tryd.func79, Tryd.ntmps79
  go_wp2
  all_goals
    go_ret
    refine ⟨ret_bool ?_, rfl⟩
    rw [Bool.eq_iff_iff]; simp [digI]; omega

set_option maxHeartbeats 400000 in
theorem isLetter_any (c : Int) (w : World) :
    Calls Tryd.prog 76 #[.int .i32 c] w fun e w' => e = .returned (.bool (letI' c)) ∧ w = w' := by
  go_enter Tryd.func76, Tryd.ntmps76
  go_wp2
  all_goals
    go_ret
    refine ⟨ret_bool ?_, rfl⟩
    rw [Bool.eq_iff_iff]; simp [letI']; omega

set_option maxHeartbeats 400000 in
theorem isPart_any (c : Int) (w : World) :
    Calls Tryd.prog 78 #[.int .i32 c] w fun e w' => e = .returned (.bool (partI c)) ∧ w = w' := by
  go_enter Tryd.func78, Tryd.ntmps78
  go_wp2_with (first | (go_at_call 76; refine (isLetter_any _ _).mono ?_; rintro e w' ⟨rfl, rfl⟩) | (go_at_call 79; refine (isDigit_any _ _).mono ?_; rintro e w' ⟨rfl, rfl⟩))
  all_goals
    go_ret
    refine ⟨ret_bool ?_, rfl⟩
    simp_all [partI]

theorem ne_t {a b : Int} (h : (a != b) = true) : (a == b) = false := by simpa using h
theorem ne_f {a b : Int} (h : (a != b) = false) : (a == b) = true := by simpa using h

theorem skip_in {s : ByteArray} {j m : Nat} (hlt : j < s.size) (h : j + skipN false ((bts s).drop j) = m) (hc : ((s[j].toNat : Int) == 32) = true ∨ ((s[j].toNat : Int) == 10) = true) :
    (j + 1) + skipN false ((bts s).drop (j + 1)) = m := by
  rw [drop_cons s j hlt, skipN, if_pos (by simp only [beq_iff_eq] at hc; omega)] at h
  omega
theorem skip_hash {s : ByteArray} {j m : Nat} (hlt : j < s.size) (h : j + skipN false ((bts s).drop j) = m) (hc : ((s[j].toNat : Int) == 35) = true) :
    j + skipN true ((bts s).drop j) = m := by
  simp only [beq_iff_eq] at hc
  rw [drop_cons s j hlt, skipN, if_neg (by omega), if_pos (by omega)] at h
  rw [drop_cons s j hlt, skipN, if_neg (by omega)]
  omega
theorem skip_out {s : ByteArray} {j m : Nat} (hlt : j < s.size) (h : j + skipN false ((bts s).drop j) = m) (h1 : ((s[j].toNat : Int) == 32) = false) (h2 : ((s[j].toNat : Int) == 10) = false) (h3 : ((s[j].toNat : Int) == 35) = false) :
    j = m := by
  simp only [beq_eq_false_iff_ne] at h1 h2 h3
  rw [drop_cons s j hlt, skipN, if_neg (by omega), if_neg (by omega)] at h
  omega
theorem skip_end {s : ByteArray} {j m : Nat} {b : Bool} (hlt : ¬ j < s.size) (h : j + skipN b ((bts s).drop j) = m) : j = m := by
  rw [drop_nil s j hlt] at h
  cases b <;> simpa [skipN] using h
theorem skip_rem {s : ByteArray} {j m : Nat} (hlt : j < s.size) (h : j + skipN true ((bts s).drop j) = m) (hc : ((s[j].toNat : Int) == 10) = false) :
    (j + 1) + skipN true ((bts s).drop (j + 1)) = m := by
  simp only [beq_eq_false_iff_ne] at hc
  rw [drop_cons s j hlt, skipN, if_neg (by omega)] at h
  omega
theorem skip_line {s : ByteArray} {j m : Nat} (hlt : j < s.size) (h : j + skipN true ((bts s).drop j) = m) (hc : ((s[j].toNat : Int) == 10) = true) :
    j + skipN false ((bts s).drop j) = m := by
  simp only [beq_iff_eq] at hc
  rw [drop_cons s j hlt, skipN, if_pos (by omega)] at h
  rw [drop_cons s j hlt, skipN, if_pos (by omega)]
  omega

set_option maxHeartbeats 400000 in
theorem skip_any (s : ByteArray) (n : Int) (w : World) (h0 : 0 ≤ n) (h1 : n ≤ s.size) (hs : s.size ≤ 9223372036854775807) :
    Calls Tryd.prog 51 #[.string s, .int .i64 n] w fun e w' => e = .returned (.int .i64 (n + skipN false ((bts s).drop n.toNat))) ∧ w = w' := by
  obtain ⟨k, rfl⟩ := Int.eq_ofNat_of_zero_le h0
  rw [Int.toNat_natCast]
  have hk : k ≤ s.size := by omega
  have hle := skipN_le ((bts s).drop k) false
  have hlen : ((bts s).drop k).length = s.size - k := by rw [List.length_drop, ← size_bts]
  obtain ⟨m, hm⟩ : ∃ m, k + skipN false ((bts s).drop k) = m := ⟨_, rfl⟩
  have hms : m ≤ s.size := by omega
  have HM := Lib.hid hm
  clear hle hlen h0 h1
  go_enter Tryd.func51, Tryd.ntmps51
  go_wp2
  go_loop [1] (fun i => ∃ j : Nat, j ≤ s.size ∧ i = .int .i64 j ∧ j + skipN false ((bts s).drop j) = m) (fun i => s.size - (intOf i).toNat)
  case atStart => exact ⟨k, hk, rfl, HM.out⟩
  case round =>
    obtain ⟨j, hj, rfl, hr⟩ := hrel
    have HR := Lib.hid hr
    clear hr
    by_cases hlt : j < s.size
    · go_wp2
      · exact ⟨⟨j + 1, by omega, by go_num, skip_in hlt HR.out (.inl ‹_›)⟩, by simp [intOf]; omega⟩
      · exact ⟨⟨j + 1, by omega, by go_num, skip_in hlt HR.out (.inr ‹_›)⟩, by simp [intOf]; omega⟩
      · have HH := Lib.hid (skip_hash hlt HR.out ‹_›)
        have HN := Lib.hid (show ((s[j].toNat : Int) == 10) = false by assumption)
        go_loop [1] (fun i => ∃ j' : Nat, j ≤ j' ∧ j' ≤ s.size ∧ i = .int .i64 j' ∧ j' + skipN true ((bts s).drop j') = m) (fun i => s.size - (intOf i).toNat)
        case atStart => exact ⟨j, Nat.le_refl _, hj, rfl, HH.out⟩
        case round =>
          obtain ⟨j', hjj, hj', rfl, hr'⟩ := hrel
          have HR' := Lib.hid hr'
          clear hr'
          by_cases hlt' : j' < s.size
          · go_wp2
            · exact ⟨⟨j' + 1, by omega, by omega, by go_num, skip_rem hlt' HR'.out (ne_t ‹_›)⟩, by simp [intOf]; omega⟩
            · have hne : j < j' := by
                rcases Nat.lt_or_ge j j' with h | h
                · exact h
                · obtain rfl : j = j' := by omega
                  have h10 := ne_f (a := (s[j].toNat : Int)) (b := 10) ‹_›
                  rw [HN.out] at h10
                  cases h10
              exact ⟨⟨j', by omega, rfl, skip_line hlt' HR'.out (ne_f ‹_›)⟩, by simp [intOf]; omega⟩
          · go_wp2
            have h1 := skip_end hlt' HR'.out
            exact ⟨⟨j', by omega, rfl, by rw [drop_nil s j' hlt']; simpa [skipN] using h1⟩, by simp [intOf]; omega⟩
      · go_ret
        refine ⟨ret_int ?_, rfl⟩
        have h1 := skip_out hlt HR.out ‹_› ‹_› ‹_›
        have := HM.out
        omega
    · go_wp2
      go_ret
      refine ⟨ret_int ?_, rfl⟩
      have h1 := skip_end hlt HR.out
      have := HM.out
      omega

theorem span_in {p : Int → Bool} {s : ByteArray} {j m : Nat} (hlt : j < s.size) (h : j + spanN p ((bts s).drop j) = m) (hc : p (s[j].toNat : Int) = true) :
    (j + 1) + spanN p ((bts s).drop (j + 1)) = m := by
  rw [drop_cons s j hlt, spanN, if_pos hc] at h
  omega
theorem span_out {p : Int → Bool} {s : ByteArray} {j m : Nat} (hlt : j < s.size) (h : j + spanN p ((bts s).drop j) = m) (hc : p (s[j].toNat : Int) = false) : j = m := by
  rw [drop_cons s j hlt, spanN, if_neg (by simp [hc])] at h
  omega
theorem span_end {p : Int → Bool} {s : ByteArray} {j m : Nat} (hlt : ¬ j < s.size) (h : j + spanN p ((bts s).drop j) = m) : j = m := by
  rw [drop_nil s j hlt] at h
  simpa [spanN] using h

set_option maxHeartbeats 400000 in
theorem run_part (s : ByteArray) (n : Int) (w : World) (h0 : 0 ≤ n) (h1 : n ≤ s.size) (hs : s.size ≤ 9223372036854775807) :
    Calls Tryd.prog 77 #[.string s, .int .i64 n, .func (.func 78) #[] #[]] w fun e w' => e = .returned (.string (s.extract n.toNat (n.toNat + spanN partI ((bts s).drop n.toNat)))) ∧ w = w' := by
  obtain ⟨k, rfl⟩ := Int.eq_ofNat_of_zero_le h0
  rw [Int.toNat_natCast]
  have hk : k ≤ s.size := by omega
  have hle := spanN_le partI ((bts s).drop k)
  have hlen : ((bts s).drop k).length = s.size - k := by rw [List.length_drop, ← size_bts]
  obtain ⟨m, hm⟩ : ∃ m, k + spanN partI ((bts s).drop k) = m := ⟨_, rfl⟩
  rw [hm]
  have hms : m ≤ s.size := by omega
  have hkm : k ≤ m := by omega
  have HM := Lib.hid hm
  clear hle hlen h0 h1 hm
  go_enter Tryd.func77, Tryd.ntmps77
  go_wp2
  go_loop [7] (fun i => ∃ j : Nat, k ≤ j ∧ j ≤ s.size ∧ i = .int .i64 j ∧ j + spanN partI ((bts s).drop j) = m) (fun i => s.size - (intOf i).toNat)
  case atStart => exact ⟨k, Nat.le_refl _, hk, rfl, HM.out⟩
  case round =>
    obtain ⟨j, hkj, hj, rfl, hr⟩ := hrel
    have HR := Lib.hid hr
    clear hr
    by_cases hlt : j < s.size
    · have hb : s[j].toNat < 256 := s[j].toNat_lt
      go_wp2_with (go_at_call 78; refine (isPart_any _ _).mono ?_; rintro e w' ⟨rfl, rfl⟩)
      · exact ⟨⟨j + 1, by omega, by omega, by go_num, span_in hlt HR.out ‹_›⟩, by simp [intOf]; omega⟩
      · obtain rfl := span_out hlt HR.out ‹_›
        go_ret
        exact ⟨rfl, rfl⟩
    · go_wp2
      obtain rfl := span_end hlt HR.out
      go_ret
      exact ⟨rfl, rfl⟩

set_option maxHeartbeats 400000 in
theorem run_digit (s : ByteArray) (n : Int) (w : World) (h0 : 0 ≤ n) (h1 : n ≤ s.size) (hs : s.size ≤ 9223372036854775807) :
    Calls Tryd.prog 77 #[.string s, .int .i64 n, .func (.func 79) #[] #[]] w fun e w' => e = .returned (.string (s.extract n.toNat (n.toNat + spanN digI ((bts s).drop n.toNat)))) ∧ w = w' := by
  obtain ⟨k, rfl⟩ := Int.eq_ofNat_of_zero_le h0
  rw [Int.toNat_natCast]
  have hk : k ≤ s.size := by omega
  have hle := spanN_le digI ((bts s).drop k)
  have hlen : ((bts s).drop k).length = s.size - k := by rw [List.length_drop, ← size_bts]
  obtain ⟨m, hm⟩ : ∃ m, k + spanN digI ((bts s).drop k) = m := ⟨_, rfl⟩
  rw [hm]
  have hms : m ≤ s.size := by omega
  have hkm : k ≤ m := by omega
  have HM := Lib.hid hm
  clear hle hlen h0 h1 hm
  go_enter Tryd.func77, Tryd.ntmps77
  go_wp2
  go_loop [7] (fun i => ∃ j : Nat, k ≤ j ∧ j ≤ s.size ∧ i = .int .i64 j ∧ j + spanN digI ((bts s).drop j) = m) (fun i => s.size - (intOf i).toNat)
  case atStart => exact ⟨k, Nat.le_refl _, hk, rfl, HM.out⟩
  case round =>
    obtain ⟨j, hkj, hj, rfl, hr⟩ := hrel
    have HR := Lib.hid hr
    clear hr
    by_cases hlt : j < s.size
    · have hb : s[j].toNat < 256 := s[j].toNat_lt
      go_wp2_with (go_at_call 79; refine (isDigit_any _ _).mono ?_; rintro e w' ⟨rfl, rfl⟩)
      · exact ⟨⟨j + 1, by omega, by omega, by go_num, span_in hlt HR.out ‹_›⟩, by simp [intOf]; omega⟩
      · obtain rfl := span_out hlt HR.out ‹_›
        go_ret
        exact ⟨rfl, rfl⟩
    · go_wp2
      obtain rfl := span_end hlt HR.out
      go_ret
      exact ⟨rfl, rfl⟩

end Go.Proofs.YtkalkglllgebkaaDoor
