/-
  The contract of the lexer's function read at marks, and of read whole.
-/
import Derived.Test.YtkalkglllgebkaaDoorLexC
namespace Go.Proofs.YtkalkglllgebkaaDoor
open Go.RowKit Saw

theorem take_at (s : ByteArray) (k m : Nat) : s.extract k (k + m) = str (((bts s).drop k).take m) := by
  rw [extract_str]; congr 2; omega

def markAt (s : ByteArray) (k m : Nat) : Bool := decide (k + m ≤ s.size) && isMarkP (((bts s).drop k).take m)

theorem mark_less {s : ByteArray} {k z : Nat} (hz : z ≤ 2) (hz1 : 0 < z) (h : markAt s k z = false) (h2 : z < 2 → markAt s k 2 = false) :
    (z - 1 < 2 → markAt s k 2 = false) ∧ (z - 1 < 1 → markAt s k 1 = false) := by
  rcases (show z = 1 ∨ z = 2 by omega) with rfl | rfl
  · exact ⟨fun _ => h2 (by omega), fun _ => h⟩
  · exact ⟨fun _ => h, fun h => absurd h (by omega)⟩
theorem mark_found {s : ByteArray} {k z : Nat} {n : Int} (hz : z ≤ 2) (hz1 : 0 < z) (h : markAt s k z = true) (h2 : z < 2 → markAt s k 2 = false) :
    (if markAt s k 2 = true then ((⟨3, ((bts s).drop k).take 2, 0, n⟩ : Lx), (0 : Int)) else if markAt s k 1 = true then (⟨3, ((bts s).drop k).take 1, 0, n⟩, 0) else (Lx.zero, 5)) = (⟨3, ((bts s).drop k).take z, 0, n⟩, 0) := by
  rcases (show z = 1 ∨ z = 2 by omega) with rfl | rfl
  · rw [if_neg (by rw [h2 (by omega)]; decide), if_pos h]
  · rw [if_pos h]

set_option maxHeartbeats 400000 in
theorem read_mark (s : ByteArray) (k : Nat) (w : World) (hlt : k < s.size) (hs : s.size ≤ 9223372036854775807 - 2) (hc : letI' (s[k].toNat) = false) (hd : digI (s[k].toNat) = false) :
    Calls Tryd.prog 52 #[.string s, .int .i64 k] w (ReadPost ((bts s).drop k) k w) := by
  have hb : s[k].toNat < 256 := s[k].toNat_lt
  have hlen : ((bts s).drop k).length = s.size - k := by rw [List.length_drop, ← size_bts]
  have hv : readP ((bts s).drop k) k = if markAt s k 2 = true then (⟨3, ((bts s).drop k).take 2, 0, k⟩, 0) else if markAt s k 1 = true then (⟨3, ((bts s).drop k).take 1, 0, k⟩, 0) else (Lx.zero, 5) := by
    conv => lhs; rw [readP.eq_def]
    rw [drop_cons s k hlt]
    simp only [hc, hd, Bool.false_eq_true, if_false]
    rw [← drop_cons s k hlt]
    have e2 : (2 ≤ ((bts s).drop k).length ∧ isMarkP (((bts s).drop k).take 2) = true) = (markAt s k 2 = true) := by
      simp only [markAt, Bool.and_eq_true, decide_eq_true_eq, hlen]
      rw [show (2 ≤ s.size - k) = (k + 2 ≤ s.size) by apply propext; omega]
    have e1 : (isMarkP (((bts s).drop k).take 1) = true) = (markAt s k 1 = true) := by
      simp only [markAt, Bool.and_eq_true, decide_eq_true_eq]
      rw [eq_true (show k + 1 ≤ s.size by omega), true_and]
    simp only [e2, e1]
  have HV := Lib.hid hv
  clear hv hlen
  go_enter Tryd.func52, Tryd.ntmps52
  go_wp2_with fail
  refine (isLetter_any _ _).mono ?_
  rintro e w' ⟨rfl, rfl⟩
  go_wp2_with fail
  refine (isDigit_any _ _).mono ?_
  rintro e w' ⟨rfl, rfl⟩
  go_wp2_with fail
  go_loop [11] (fun i => ∃ z : Nat, z ≤ 2 ∧ i = .int .i64 z ∧ (z < 2 → markAt s k 2 = false) ∧ (z < 1 → markAt s k 1 = false)) (fun i => (intOf i).toNat)
  case atStart => exact ⟨2, by omega, rfl, by omega, by omega⟩
  case round =>
    obtain ⟨z, hz, rfl, hr2, hr1⟩ := hrel
    have H2 := Lib.hid hr2
    have H1 := Lib.hid hr1
    clear hr2 hr1
    by_cases hz0 : z = 0
    · subst hz0
      go_wp2_with fail
      refine bodyPost_ret (v := .tuple #[.agg #[.int .i64 0, .string ⟨#[]⟩, .int .i64 0, .int .i64 0], .int .i64 5]) (by simp [results, Tryd.results52, go_sem]) rfl ⟨?_, ?_⟩
      · rw [HV.out, if_neg (by rw [H2.out (by omega)]; decide), if_neg (by rw [H1.out (by omega)]; decide)]
        rfl
      · exact (Below.refl _ _).alloc (Nat.le_refl _) _
    · have hz1 : 0 < z := by omega
      by_cases hin : k + z ≤ s.size
      · obtain ⟨b, hbm⟩ : ∃ b, isMarkP (((bts s).drop k).take z) = b := ⟨_, rfl⟩
        have hm : markAt s k z = b := by simp [markAt, hin, hbm]
        have HB := Lib.hid hbm
        have HM := Lib.hid hm
        clear hbm hm
        go_wp2_with fail
        refine (isMark_any _ _).mono ?_
        rintro e w' ⟨he, rfl⟩
        rw [take_at, bts_str, HB.out] at he
        subst he
        cases b
        · go_wp2_with fail
          exact ⟨⟨z - 1, by omega, by go_num, mark_less hz hz1 HM.out H2.out⟩, by simp [intOf]; omega⟩
        · go_wp2_with fail
          have HX := take_at s k z
          refine bodyPost_ret (v := .tuple #[.agg #[.int .i64 3, .string (s.extract k (k + z)), .int .i64 0, .int .i64 k], .int .i64 0]) (by simp [results, Tryd.results52, go_sem]) rfl ⟨?_, ?_⟩
          · rw [HV.out, HX, mark_found hz hz1 HM.out H2.out]
            rfl
          · exact (Below.refl _ _).alloc (Nat.le_refl _) _
      · go_wp2_with fail
        exact ⟨⟨z - 1, by omega, by go_num, mark_less hz hz1 (by simp [markAt, hin]) H2.out⟩, by simp [intOf]; omega⟩

theorem read_any (s : ByteArray) (k : Nat) (w : World) (hlt : k < s.size) (hs : s.size ≤ 9223372036854775807 - 2) :
    Calls Tryd.prog 52 #[.string s, .int .i64 k] w (ReadPost ((bts s).drop k) k w) := by
  cases hc : letI' (s[k].toNat)
  · cases hd : digI (s[k].toNat)
    · exact read_mark s k w hlt hs hc hd
    · exact read_number s k w hlt (by omega) hc hd
  · exact read_name s k w hlt (by omega) hc

end Go.Proofs.YtkalkglllgebkaaDoor
