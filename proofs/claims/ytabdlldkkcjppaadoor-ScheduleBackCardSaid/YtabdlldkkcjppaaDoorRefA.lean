/-
  The contracts of the reference's small functions: Digit, Letter, skip, number.
-/
import Derived.Test.YtabdlldkkcjppaaDoorLexF
namespace Go.Proofs.YtabdlldkkcjppaaDoor
open Go.RowKit Saw

set_option maxHeartbeats 400000 in
theorem refDigit_any (c : Int) (w : World) :
    Calls Tryd.prog 62 #[.int .u8 c] w fun e w' => e = .returned (.bool (digI c)) ∧ w = w' := by
  go_enter Tryd.func62, Tryd.ntmps62
  go_wp2
  all_goals
    go_ret
    refine ⟨ret_bool ?_, rfl⟩
    rw [Bool.eq_iff_iff]; simp [digI]; omega

set_option maxHeartbeats 400000 in
theorem refLetter_any (c : Int) (w : World) :
    Calls Tryd.prog 64 #[.int .u8 c] w fun e w' => e = .returned (.bool (partI c)) ∧ w = w' := by
  go_enter Tryd.func64, Tryd.ntmps64
  go_wp2_with (go_at_call 62; refine (refDigit_any _ _).mono ?_; rintro e w' ⟨rfl, rfl⟩)
  all_goals
    go_ret
    refine ⟨ret_bool ?_, rfl⟩
    rw [Bool.eq_iff_iff]
    simp [partI, letI', digI] at *
    try omega

set_option maxHeartbeats 400000 in
theorem refSkip_any (s : ByteArray) (n : Int) (w : World) (h0 : 0 ≤ n) (h1 : n ≤ s.size) (hs : s.size ≤ 9223372036854775807) :
    Calls Tryd.prog 61 #[.string s, .int .i64 n] w fun e w' => e = .returned (.int .i64 (n + skipN false ((bts s).drop n.toNat))) ∧ w = w' := by
  obtain ⟨k, rfl⟩ := Int.eq_ofNat_of_zero_le h0
  rw [Int.toNat_natCast]
  have hk : k ≤ s.size := by omega
  obtain ⟨m, hm⟩ : ∃ m, k + skipN false ((bts s).drop k) = m := ⟨_, rfl⟩
  have HM := Lib.hid hm
  clear h0 h1
  go_enter Tryd.func61, Tryd.ntmps61
  go_wp2
  go_loop [1, 5] (fun i rem => ∃ (j : Nat) (b : Bool), j ≤ s.size ∧ i = .int .i64 j ∧ rem = .bool b ∧ j + skipN b ((bts s).drop j) = m) (fun i _ => s.size - (intOf i).toNat)
  case atStart => exact ⟨k, false, hk, rfl, rfl, HM.out⟩
  case round =>
    obtain ⟨j, b, hj, rfl, rfl, hr⟩ := hrel
    have HR := Lib.hid hr
    clear hr
    by_cases hlt : j < s.size
    · cases b
      · go_wp2
        · exact ⟨⟨j + 1, false, by omega, by go_num, rfl, skip_in hlt HR.out (.inr ‹_›)⟩, by simp [intOf]; omega⟩
        · exact ⟨⟨j + 1, false, by omega, by go_num, rfl, skip_in hlt HR.out (.inl ‹_›)⟩, by simp [intOf]; omega⟩
        · exact ⟨⟨j + 1, true, by omega, by go_num, rfl, skip_rem hlt (skip_hash hlt HR.out ‹_›) ‹_›⟩, by simp [intOf]; omega⟩
        · go_ret
          refine ⟨ret_int ?_, rfl⟩
          have h1 := skip_out hlt HR.out ‹_› ‹_› ‹_›
          have := HM.out
          omega
      · go_wp2
        · exact ⟨⟨j + 1, false, by omega, by go_num, rfl, skip_in hlt (skip_line hlt HR.out ‹_›) (.inr ‹_›)⟩, by simp [intOf]; omega⟩
        · exact ⟨⟨j + 1, true, by omega, by go_num, rfl, skip_rem hlt HR.out ‹_›⟩, by simp [intOf]; omega⟩
    · go_wp2
      go_ret
      refine ⟨ret_int ?_, rfl⟩
      have h1 := skip_end hlt HR.out
      have := HM.out
      omega

set_option maxHeartbeats 400000 in
theorem number_any (s : ByteArray) (w : World) (hd : allDig (bts s)) (h1 : 0 < s.size) (hs : s.size ≤ 9223372036854775807) :
    Calls Tryd.prog 63 #[.string s] w fun e w' => e = .returned (.tuple #[.int .i64 (valueP (bts s)).1, .int .i64 (valueP (bts s)).2]) ∧ w = w' := by
  have h0 : (bts s).head? = some s[0] := by
    have := drop_cons s 0 h1
    rw [List.drop_zero] at this
    rw [this]; rfl
  by_cases hz : 1 < s.size ∧ s[0].toNat = 48
  · have hv : valueP (bts s) = (0, 5) := by
      rw [valueP, if_pos ⟨by rw [← size_bts]; exact hz.1, by rw [h0]; simp [hz.2]⟩]
    have HV := Lib.hid hv
    obtain ⟨hz1, hz2⟩ := hz
    have hz3 : ((s[0].toNat : Int) == 48) = true := by simp; omega
    have HD := Lib.hid hd
    clear hv h0 hd hz2
    go_enter Tryd.func63, Tryd.ntmps63
    go_wp2
    go_ret2
    exact ⟨ret_ints (by rw [HV.out]) (by rw [HV.out]), rfl⟩
  · have hz' : 1 < s.size → ((s[0].toNat : Int) == 48) = false := by intro h; simp; omega
    obtain ⟨m, hm⟩ : ∃ m, valN 0 (bts s) = m := ⟨_, rfl⟩
    have hv : valueP (bts s) = valPair m := by
      rw [valueP, if_neg (fun h => hz ⟨by rw [size_bts]; exact h.1, by have := h.2; rw [h0] at this; simpa using this⟩), hm]
    have HV := Lib.hid hv
    have HM := Lib.hid hm
    have HD := Lib.hid hd
    clear hv h0 hd hm hz
    by_cases hs1 : 1 < s.size
    case' pos => have hz3 := hz' hs1; clear hz'
    case' neg => clear hz'
    all_goals
      go_enter Tryd.func63, Tryd.ntmps63
      go_wp2
      go_loop [4, 5] (fun v i => ∃ (j : Nat) (n : Int), j ≤ s.size ∧ i = .int .i64 j ∧ v = .int .i64 n ∧ 0 ≤ n ∧ n ≤ 1099511627776 ∧ valN n ((bts s).drop j) = m) (fun _ i => s.size - (intOf i).toNat)
      case atStart => exact ⟨0, 0, by omega, rfl, rfl, by omega, by omega, HM.out⟩
      case round =>
        obtain ⟨j, n, hj, rfl, rfl, hn0, hn1, hr⟩ := hrel
        have HR := Lib.hid hr
        clear hr
        by_cases hlt : j < s.size
        · have hb := dig_at HD.out hlt
          go_wp2
          · go_ret2
            have h9 := HV.out
            rw [val_out hlt HR.out ‹_›] at h9
            exact ⟨ret_ints (by rw [h9]; rfl) (by rw [h9]; rfl), rfl⟩
          · exact ⟨⟨j + 1, _, by omega, by go_num, rfl, by omega, by omega, val_in hlt HR.out (by omega)⟩, by simp [intOf]; omega⟩
        · go_wp2
          go_ret2
          have h9 := HV.out
          rw [val_end hlt HR.out] at h9
          exact ⟨ret_ints (by rw [h9]; rfl) (by rw [h9]; rfl), rfl⟩

end Go.Proofs.YtabdlldkkcjppaaDoor
