/-
  The contract of the lexer's function read.
-/
import Derived.Test.YtkalkglllgebkaaDoorLexB
namespace Go.Proofs.YtkalkglllgebkaaDoor
open Go.RowKit Saw

/-- A lexeme as the model holds it by value. -/
def lxAgg (x : Lx) : Value := .agg #[.int .i64 x.kind, .string (str x.text), .int .i64 x.num, .int .i64 x.off]

def ReadPost (l : List UInt8) (n : Int) (w : World) (e : Ending) (w' : World) : Prop :=
  e = .returned (.tuple #[lxAgg (readP l n).1, .int .i64 (readP l n).2]) ∧ Below w.heap.size w w'

theorem bcell {W w1 : World} {n : Nat} (hb : Below n W w1) : (∀ b o, b < n → w1.cell? ⟨b, o, none⟩ = W.cell? ⟨b, o, none⟩) ∧ (∀ b o, b < n → w1.frozen? ⟨b, o, none⟩ = W.frozen? ⟨b, o, none⟩) :=
  ⟨fun b o h => hb.cell (p := ⟨b, o, none⟩) h, fun b o h => hb.frozen (p := ⟨b, o, none⟩) h⟩

theorem below_box {w w' : World} {o : Obj} (hbw : Below (w.heap.size + 1) (w.alloc o) w') : Below w.heap.size w w' :=
  ((Below.refl _ _).alloc (Nat.le_refl _) _).trans (hbw.mono (by omega))

theorem part_at (s : ByteArray) (k m : Nat) (w : World) (h1 : k ≤ s.size) (hs : s.size ≤ 9223372036854775807) (hm : spanN partI ((bts s).drop k) = m) :
    Calls Tryd.prog 77 #[.string s, .int .i64 k, .func (.func 78) #[] #[]] w fun e w' => e = .returned (.string (str (((bts s).drop k).take m))) ∧ w = w' := by
  refine (run_part s k w (by omega) (by omega) hs).mono ?_
  rintro e w' ⟨rfl, rfl⟩
  rw [Int.toNat_natCast, hm, extract_str]
  refine ⟨?_, rfl⟩
  congr 4
  omega
theorem digit_at (s : ByteArray) (k m : Nat) (w : World) (h1 : k ≤ s.size) (hs : s.size ≤ 9223372036854775807) (hm : spanN digI ((bts s).drop k) = m) :
    Calls Tryd.prog 77 #[.string s, .int .i64 k, .func (.func 79) #[] #[]] w fun e w' => e = .returned (.string (str (((bts s).drop k).take m))) ∧ w = w' := by
  refine (run_digit s k w (by omega) (by omega) hs).mono ?_
  rintro e w' ⟨rfl, rfl⟩
  rw [Int.toNat_natCast, hm, extract_str]
  refine ⟨?_, rfl⟩
  congr 4
  omega

set_option maxHeartbeats 400000 in
theorem read_name (s : ByteArray) (k : Nat) (w : World) (hlt : k < s.size) (hs : s.size ≤ 9223372036854775807) (hc : letI' (s[k].toNat) = true) :
    Calls Tryd.prog 52 #[.string s, .int .i64 k] w (ReadPost ((bts s).drop k) k w) := by
  have hb : s[k].toNat < 256 := s[k].toNat_lt
  have hle := spanN_le partI ((bts s).drop k)
  have hlen : ((bts s).drop k).length = s.size - k := by rw [List.length_drop, ← size_bts]
  have hv : readP ((bts s).drop k) k = if 16 < spanN partI ((bts s).drop k) then (Lx.zero, 6) else (⟨1, ((bts s).drop k).take (spanN partI ((bts s).drop k)), 0, k⟩, 0) := by
    conv => lhs; rw [readP.eq_def]
    simp only [drop_cons s k hlt, hc, if_true]
  obtain ⟨m, hm⟩ : ∃ m, spanN partI ((bts s).drop k) = m := ⟨_, rfl⟩
  rw [hm] at hv hle
  have hz : (str (((bts s).drop k).take m)).size = m := by rw [size_str, List.length_take]; omega
  have hz' : m ≤ 9223372036854775807 := by omega
  have HV := Lib.hid hv
  have HM := Lib.hid hm
  obtain ⟨t, ht⟩ : ∃ t, str (((bts s).drop k).take m) = t := ⟨_, rfl⟩
  rw [ht] at hz
  have HT := Lib.hid ht
  have HZ := Lib.hid hz
  have HL := Lib.hid hlen
  clear hv hm hz hlen hle ht
  by_cases h16 : 16 < t.size
  all_goals
    go_enter Tryd.func52, Tryd.ntmps52
    go_wp2_with fail
    refine (isLetter_any _ _).mono ?_
    rintro e w' ⟨rfl, rfl⟩
    go_wp2_with fail
    refine (part_at s k m _ (by omega) hs HM.out).mono ?_
    rintro e w' ⟨he, rfl⟩
    rw [HT.out] at he
    subst he
    go_wp2_with fail
  · refine bodyPost_ret (v := .tuple #[.agg #[.int .i64 0, .string ⟨#[]⟩, .int .i64 0, .int .i64 0], .int .i64 6]) (by simp [results, Tryd.results52, go_sem]) rfl ⟨?_, (Below.refl _ _).alloc (Nat.le_refl _) _⟩
    rw [HV.out, if_pos (by rw [← HZ.out]; exact h16)]
    rfl
  · refine bodyPost_ret (v := .tuple #[.agg #[.int .i64 1, .string t, .int .i64 0, .int .i64 k], .int .i64 0]) (by simp [results, Tryd.results52, go_sem]) rfl ⟨?_, (Below.refl _ _).alloc (Nat.le_refl _) _⟩
    rw [HV.out, if_neg (by rw [← HZ.out]; exact h16), ← HT.out]
    rfl

set_option maxHeartbeats 400000 in
theorem read_number (s : ByteArray) (k : Nat) (w : World) (hlt : k < s.size) (hs : s.size ≤ 9223372036854775807) (hc : letI' (s[k].toNat) = false) (hd : digI (s[k].toNat) = true) :
    Calls Tryd.prog 52 #[.string s, .int .i64 k] w (ReadPost ((bts s).drop k) k w) := by
  have hb : s[k].toNat < 256 := s[k].toNat_lt
  have hle := spanN_le digI ((bts s).drop k)
  have hlen : ((bts s).drop k).length = s.size - k := by rw [List.length_drop, ← size_bts]
  have hv : readP ((bts s).drop k) k = if (valueP (((bts s).drop k).take (spanN digI ((bts s).drop k)))).2 = 0 then (⟨2, ((bts s).drop k).take (spanN digI ((bts s).drop k)), (valueP (((bts s).drop k).take (spanN digI ((bts s).drop k)))).1, k⟩, 0)
      else (Lx.zero, (valueP (((bts s).drop k).take (spanN digI ((bts s).drop k)))).2) := by
    conv => lhs; rw [readP.eq_def]
    simp only [drop_cons s k hlt, hc, hd, if_true, Bool.false_eq_true, if_false]
  have hall := span_dig_all ((bts s).drop k)
  have hpos : 0 < spanN digI ((bts s).drop k) := by rw [drop_cons s k hlt, spanN, if_pos hd]; omega
  obtain ⟨m, hm⟩ : ∃ m, spanN digI ((bts s).drop k) = m := ⟨_, rfl⟩
  rw [hm] at hv hle hall hpos
  have hz : (str (((bts s).drop k).take m)).size = m := by rw [size_str, List.length_take]; omega
  obtain ⟨t, ht⟩ : ∃ t, str (((bts s).drop k).take m) = t := ⟨_, rfl⟩
  have hbt : bts t = ((bts s).drop k).take m := by rw [← ht, bts_str]
  rw [ht] at hz
  rw [← hbt] at hall hv
  have hz1 : t.size ≤ 9223372036854775807 := by omega
  have hz2 : 0 < t.size := by omega
  obtain ⟨v, er, hver⟩ : ∃ v er, valueP (bts t) = (v, er) := ⟨_, _, rfl⟩
  rw [hver] at hv
  have HV := Lib.hid hv
  have HVE := Lib.hid hver
  have HM := Lib.hid hm
  have HT := Lib.hid ht
  have HB := Lib.hid hbt
  have HA := Lib.hid hall
  have HL := Lib.hid hlen
  clear hv hm hz hlen hle ht hver hbt hall hpos
  by_cases he0 : er = 0
  case' pos => subst he0
  case' neg => have hen : (er != 0) = true := by simpa using he0
  all_goals
    go_enter Tryd.func52, Tryd.ntmps52
    go_wp2_with fail
    refine (isLetter_any _ _).mono ?_
    rintro e w' ⟨rfl, rfl⟩
    go_wp2_with fail
    refine (isDigit_any _ _).mono ?_
    rintro e w' ⟨rfl, rfl⟩
    go_wp2_with fail
    refine (digit_at s k m _ (by omega) hs HM.out).mono ?_
    rintro e w' ⟨he, rfl⟩
    rw [HT.out] at he
    subst he
    go_wp2_with fail
    refine (value_any t _ HA.out hz2 hz1).mono ?_
    rintro e w' ⟨he, hbw⟩
    rw [HVE.out] at he
    subst he
    simp only [World.size_alloc] at hbw
    obtain ⟨hcl, hfr⟩ := bcell hbw
    go_wp2_with fail
  · have hc0 := hcl w.heap.size
    refine bodyPost_ret (v := .tuple #[.agg #[.int .i64 0, .string ⟨#[]⟩, .int .i64 0, .int .i64 0], .int .i64 er]) (by simp [results, Tryd.results52, go_sem, hc0]) rfl ⟨?_, ?_⟩
    · rw [HV.out, if_neg he0]
      rfl
    · exact ((((below_box hbw).setCell (Nat.le_refl _) _).setCell (Nat.le_refl _) _).setCell (Nat.le_refl _) _).setCell (Nat.le_refl _) _
  · have hc0 := hcl w.heap.size
    refine bodyPost_ret (v := .tuple #[.agg #[.int .i64 2, .string t, .int .i64 v, .int .i64 k], .int .i64 0]) (by simp [results, Tryd.results52, go_sem, hc0]) rfl ⟨?_, ?_⟩
    · rw [HV.out, if_pos trivial]
      simp only [lxAgg, HB.out, HT.out]
    · exact ((((below_box hbw).setCell (Nat.le_refl _) _).setCell (Nat.le_refl _) _).setCell (Nat.le_refl _) _).setCell (Nat.le_refl _) _

end Go.Proofs.YtkalkglllgebkaaDoor
