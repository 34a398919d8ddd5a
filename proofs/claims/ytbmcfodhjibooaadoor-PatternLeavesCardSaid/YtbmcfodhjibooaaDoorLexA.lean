/-
  The contracts of the lexer's small functions: isLetter, isDigit, isPart, skip, run.
  The contracts of the lexer's functions value and IsMark.
  The contract of the lexer's function read.
  The contract of the lexer's function read at marks, and of read whole.
  The contract of the lexer's function Scan.
  Slices of lexemes that are read; '==' and '!=' of two lexemes.
-/
import Derived.Test.YtbmcfodhjibooaaDoorBase
import Derived.Test.YtbmcfodhjibooaaDoorPlainA
import Derived.Test.YtbmcfodhjibooaaDoorRd
namespace Go.Proofs.YtbmcfodhjibooaaDoor
open Go.RowKit Saw

set_option maxHeartbeats 400000 in
theorem isDigit_any (c : Int) (w : World) :
    Calls Tryd.prog 100 #[.int .i32 c] w fun e w' => e = .returned (.bool (digI c)) ∧ w = w' := by
  go_enter Tryd.func100, Tryd.ntmps100
  go_wp2
  all_goals
    go_ret
    refine ⟨ret_bool ?_, rfl⟩
    rw [Bool.eq_iff_iff]; simp [digI]; omega

set_option maxHeartbeats 400000 in
theorem isLetter_any (c : Int) (w : World) :
    Calls Tryd.prog 97 #[.int .i32 c] w fun e w' => e = .returned (.bool (letI' c)) ∧ w = w' := by
  go_enter Tryd.func97, Tryd.ntmps97
  go_wp2
  all_goals
    go_ret
    refine ⟨ret_bool ?_, rfl⟩
    rw [Bool.eq_iff_iff]; simp [letI']; omega

set_option maxHeartbeats 400000 in
theorem isPart_any (c : Int) (w : World) :
    Calls Tryd.prog 99 #[.int .i32 c] w fun e w' => e = .returned (.bool (partI c)) ∧ w = w' := by
  go_enter Tryd.func99, Tryd.ntmps99
  go_wp2_with (first | (go_at_call 97; refine (isLetter_any _ _).mono ?_; rintro e w' ⟨rfl, rfl⟩) | (go_at_call 100; refine (isDigit_any _ _).mono ?_; rintro e w' ⟨rfl, rfl⟩))
  all_goals
    go_ret
    refine ⟨ret_bool ?_, rfl⟩
    simp_all [partI]

theorem ne_t {a b : Int} (h : (a != b) = true) : (a == b) = false := by simpa using h
theorem ne_f {a b : Int} (h : (a != b) = false) : (a == b) = true := by simpa using h

theorem skip_in {s : ByteArray} {j m : Nat} (hlt : j < s.size) (h : j + skipN false ((bts s).drop j) = m) (hc : ((s[j].toNat : Int) == 32) = true ∨ ((s[j].toNat : Int) == 10) = true) :
    (j + 1) + skipN false ((bts s).drop (j + 1)) = m := by
  rw [drop_cons s j hlt, skipN, if_pos (by simp only [beq_iff_eq] at hc; omega)] at h
  omega
theorem skip_hash {s : ByteArray} {j m : Nat} (hlt : j < s.size) (h : j + skipN false ((bts s).drop j) = m) (hc : ((s[j].toNat : Int) == 35) = true) :
    j + skipN true ((bts s).drop j) = m := by
  simp only [beq_iff_eq] at hc
  rw [drop_cons s j hlt, skipN, if_neg (by omega), if_pos (by omega)] at h
  rw [drop_cons s j hlt, skipN, if_neg (by omega)]
  omega
theorem skip_out {s : ByteArray} {j m : Nat} (hlt : j < s.size) (h : j + skipN false ((bts s).drop j) = m) (h1 : ((s[j].toNat : Int) == 32) = false) (h2 : ((s[j].toNat : Int) == 10) = false) (h3 : ((s[j].toNat : Int) == 35) = false) :
    j = m := by
  simp only [beq_eq_false_iff_ne] at h1 h2 h3
  rw [drop_cons s j hlt, skipN, if_neg (by omega), if_neg (by omega)] at h
  omega
theorem skip_end {s : ByteArray} {j m : Nat} {b : Bool} (hlt : ¬ j < s.size) (h : j + skipN b ((bts s).drop j) = m) : j = m := by
  rw [drop_nil s j hlt] at h
  cases b <;> simpa [skipN] using h
theorem skip_rem {s : ByteArray} {j m : Nat} (hlt : j < s.size) (h : j + skipN true ((bts s).drop j) = m) (hc : ((s[j].toNat : Int) == 10) = false) :
    (j + 1) + skipN true ((bts s).drop (j + 1)) = m := by
  simp only [beq_eq_false_iff_ne] at hc
  rw [drop_cons s j hlt, skipN, if_neg (by omega)] at h
  omega
theorem skip_line {s : ByteArray} {j m : Nat} (hlt : j < s.size) (h : j + skipN true ((bts s).drop j) = m) (hc : ((s[j].toNat : Int) == 10) = true) :
    j + skipN false ((bts s).drop j) = m := by
  simp only [beq_iff_eq] at hc
  rw [drop_cons s j hlt, skipN, if_pos (by omega)] at h
  rw [drop_cons s j hlt, skipN, if_pos (by omega)]
  omega

set_option maxHeartbeats 400000 in
theorem skip_any (s : ByteArray) (n : Int) (w : World) (h0 : 0 ≤ n) (h1 : n ≤ s.size) (hs : s.size ≤ 9223372036854775807) :
    Calls Tryd.prog 71 #[.string s, .int .i64 n] w fun e w' => e = .returned (.int .i64 (n + skipN false ((bts s).drop n.toNat))) ∧ w = w' := by
  obtain ⟨k, rfl⟩ := Int.eq_ofNat_of_zero_le h0
  rw [Int.toNat_natCast]
  have hk : k ≤ s.size := by omega
  have hle := skipN_le ((bts s).drop k) false
  have hlen : ((bts s).drop k).length = s.size - k := by rw [List.length_drop, ← size_bts]
  obtain ⟨m, hm⟩ : ∃ m, k + skipN false ((bts s).drop k) = m := ⟨_, rfl⟩
  have hms : m ≤ s.size := by omega
  have HM := Lib.hid hm
  clear hle hlen h0 h1
  go_enter Tryd.func71, Tryd.ntmps71
  go_wp2
  go_loop [1] (fun i => ∃ j : Nat, j ≤ s.size ∧ i = .int .i64 j ∧ j + skipN false ((bts s).drop j) = m) (fun i => s.size - (intOf i).toNat)
  case atStart => exact ⟨k, hk, rfl, HM.out⟩
  case round =>
    obtain ⟨j, hj, rfl, hr⟩ := hrel
    have HR := Lib.hid hr
    clear hr
    by_cases hlt : j < s.size
    · go_wp2
      · exact ⟨⟨j + 1, by omega, by go_num, skip_in hlt HR.out (.inl ‹_›)⟩, by simp [intOf]; omega⟩
      · exact ⟨⟨j + 1, by omega, by go_num, skip_in hlt HR.out (.inr ‹_›)⟩, by simp [intOf]; omega⟩
      · have HH := Lib.hid (skip_hash hlt HR.out ‹_›)
        have HN := Lib.hid (show ((s[j].toNat : Int) == 10) = false by assumption)
        go_loop [1] (fun i => ∃ j' : Nat, j ≤ j' ∧ j' ≤ s.size ∧ i = .int .i64 j' ∧ j' + skipN true ((bts s).drop j') = m) (fun i => s.size - (intOf i).toNat)
        case atStart => exact ⟨j, Nat.le_refl _, hj, rfl, HH.out⟩
        case round =>
          obtain ⟨j', hjj, hj', rfl, hr'⟩ := hrel
          have HR' := Lib.hid hr'
          clear hr'
          by_cases hlt' : j' < s.size
          · go_wp2
            · exact ⟨⟨j' + 1, by omega, by omega, by go_num, skip_rem hlt' HR'.out (ne_t ‹_›)⟩, by simp [intOf]; omega⟩
            · have hne : j < j' := by
                rcases Nat.lt_or_ge j j' with h | h
                · exact h
                · obtain rfl : j = j' := by omega
                  have h10 := ne_f (a := (s[j].toNat : Int)) (b := 10) ‹_›
                  rw [HN.out] at h10
                  cases h10
              exact ⟨⟨j', by omega, rfl, skip_line hlt' HR'.out (ne_f ‹_›)⟩, by simp [intOf]; omega⟩
          · go_wp2
            have h1 := skip_end hlt' HR'.out
            exact ⟨⟨j', by omega, rfl, by rw [drop_nil s j' hlt']; simpa [skipN] using h1⟩, by simp [intOf]; omega⟩
      · go_ret
        refine ⟨ret_int ?_, rfl⟩
        have h1 := skip_out hlt HR.out ‹_› ‹_› ‹_›
        have := HM.out
        omega
    · go_wp2
      go_ret
      refine ⟨ret_int ?_, rfl⟩
      have h1 := skip_end hlt HR.out
      have := HM.out
      omega

theorem span_in {p : Int → Bool} {s : ByteArray} {j m : Nat} (hlt : j < s.size) (h : j + spanN p ((bts s).drop j) = m) (hc : p (s[j].toNat : Int) = true) :
    (j + 1) + spanN p ((bts s).drop (j + 1)) = m := by
  rw [drop_cons s j hlt, spanN, if_pos hc] at h
  omega
theorem span_out {p : Int → Bool} {s : ByteArray} {j m : Nat} (hlt : j < s.size) (h : j + spanN p ((bts s).drop j) = m) (hc : p (s[j].toNat : Int) = false) : j = m := by
  rw [drop_cons s j hlt, spanN, if_neg (by simp [hc])] at h
  omega
theorem span_end {p : Int → Bool} {s : ByteArray} {j m : Nat} (hlt : ¬ j < s.size) (h : j + spanN p ((bts s).drop j) = m) : j = m := by
  rw [drop_nil s j hlt] at h
  simpa [spanN] using h

set_option maxHeartbeats 400000 in
theorem run_part (s : ByteArray) (n : Int) (w : World) (h0 : 0 ≤ n) (h1 : n ≤ s.size) (hs : s.size ≤ 9223372036854775807) :
    Calls Tryd.prog 98 #[.string s, .int .i64 n, .func (.func 99) #[] #[]] w fun e w' => e = .returned (.string (s.extract n.toNat (n.toNat + spanN partI ((bts s).drop n.toNat)))) ∧ w = w' := by
  obtain ⟨k, rfl⟩ := Int.eq_ofNat_of_zero_le h0
  rw [Int.toNat_natCast]
  have hk : k ≤ s.size := by omega
  have hle := spanN_le partI ((bts s).drop k)
  have hlen : ((bts s).drop k).length = s.size - k := by rw [List.length_drop, ← size_bts]
  obtain ⟨m, hm⟩ : ∃ m, k + spanN partI ((bts s).drop k) = m := ⟨_, rfl⟩
  rw [hm]
  have hms : m ≤ s.size := by omega
  have hkm : k ≤ m := by omega
  have HM := Lib.hid hm
  clear hle hlen h0 h1 hm
  go_enter Tryd.func98, Tryd.ntmps98
  go_wp2
  go_loop [7] (fun i => ∃ j : Nat, k ≤ j ∧ j ≤ s.size ∧ i = .int .i64 j ∧ j + spanN partI ((bts s).drop j) = m) (fun i => s.size - (intOf i).toNat)
  case atStart => exact ⟨k, Nat.le_refl _, hk, rfl, HM.out⟩
  case round =>
    obtain ⟨j, hkj, hj, rfl, hr⟩ := hrel
    have HR := Lib.hid hr
    clear hr
    by_cases hlt : j < s.size
    · have hb : s[j].toNat < 256 := s[j].toNat_lt
      go_wp2_with (go_at_call 99; refine (isPart_any _ _).mono ?_; rintro e w' ⟨rfl, rfl⟩)
      · exact ⟨⟨j + 1, by omega, by omega, by go_num, span_in hlt HR.out ‹_›⟩, by simp [intOf]; omega⟩
      · obtain rfl := span_out hlt HR.out ‹_›
        go_ret
        exact ⟨rfl, rfl⟩
    · go_wp2
      obtain rfl := span_end hlt HR.out
      go_ret
      exact ⟨rfl, rfl⟩

set_option maxHeartbeats 400000 in
theorem run_digit (s : ByteArray) (n : Int) (w : World) (h0 : 0 ≤ n) (h1 : n ≤ s.size) (hs : s.size ≤ 9223372036854775807) :
    Calls Tryd.prog 98 #[.string s, .int .i64 n, .func (.func 100) #[] #[]] w fun e w' => e = .returned (.string (s.extract n.toNat (n.toNat + spanN digI ((bts s).drop n.toNat)))) ∧ w = w' := by
  obtain ⟨k, rfl⟩ := Int.eq_ofNat_of_zero_le h0
  rw [Int.toNat_natCast]
  have hk : k ≤ s.size := by omega
  have hle := spanN_le digI ((bts s).drop k)
  have hlen : ((bts s).drop k).length = s.size - k := by rw [List.length_drop, ← size_bts]
  obtain ⟨m, hm⟩ : ∃ m, k + spanN digI ((bts s).drop k) = m := ⟨_, rfl⟩
  rw [hm]
  have hms : m ≤ s.size := by omega
  have hkm : k ≤ m := by omega
  have HM := Lib.hid hm
  clear hle hlen h0 h1 hm
  go_enter Tryd.func98, Tryd.ntmps98
  go_wp2
  go_loop [7] (fun i => ∃ j : Nat, k ≤ j ∧ j ≤ s.size ∧ i = .int .i64 j ∧ j + spanN digI ((bts s).drop j) = m) (fun i => s.size - (intOf i).toNat)
  case atStart => exact ⟨k, Nat.le_refl _, hk, rfl, HM.out⟩
  case round =>
    obtain ⟨j, hkj, hj, rfl, hr⟩ := hrel
    have HR := Lib.hid hr
    clear hr
    by_cases hlt : j < s.size
    · have hb : s[j].toNat < 256 := s[j].toNat_lt
      go_wp2_with (go_at_call 100; refine (isDigit_any _ _).mono ?_; rintro e w' ⟨rfl, rfl⟩)
      · exact ⟨⟨j + 1, by omega, by omega, by go_num, span_in hlt HR.out ‹_›⟩, by simp [intOf]; omega⟩
      · obtain rfl := span_out hlt HR.out ‹_›
        go_ret
        exact ⟨rfl, rfl⟩
    · go_wp2
      obtain rfl := span_end hlt HR.out
      go_ret
      exact ⟨rfl, rfl⟩

end Go.Proofs.YtbmcfodhjibooaaDoor

namespace Go.Proofs.YtbmcfodhjibooaaDoor
open Go.RowKit Saw

theorem ret_ints {k k' : IntKind} {a b a' b' : Int} (h : a = a') (h' : b = b') : Ending.returned (.tuple #[.int k a, .int k' b]) = .returned (.tuple #[.int k a', .int k' b']) := by rw [h, h']

def iterPos (b : Nat) (wr : World) : Nat := match wr.heap[b]? with | some (.stringIter _ j) => j | _ => 0
theorem iterPos_iter (w : World) (s : ByteArray) (j : Nat) : iterPos w.heap.size (w.iter s j) = j := by unfold iterPos; rw [World.iter_heap]
theorem below_iter (w : World) (s : ByteArray) (j : Nat) : Below w.heap.size w (w.iter s j) := (Below.refl _ _).alloc (Nat.le_refl _) _

theorem dig_at {s : ByteArray} {j : Nat} (h : allDig (bts s)) (hlt : j < s.size) : 48 ≤ s[j].toNat ∧ s[j].toNat ≤ 57 := by
  have h1 := h s[j] (by unfold bts; rw [Array.mem_toList_iff]; exact Array.getElem_mem hlt)
  simp [digI] at h1
  omega

theorem val_end {s : ByteArray} {j : Nat} {n : Int} {m : Option Int} (hlt : ¬ j < s.size) (h : valN n ((bts s).drop j) = m) : m = some n := by
  rw [drop_nil s j hlt] at h
  exact h.symm
theorem val_out {s : ByteArray} {j : Nat} {n : Int} {m : Option Int} (hlt : j < s.size) (h : valN n ((bts s).drop j) = m) (hc : 1099511627776 < n * 10 + ((s[j].toNat : Int) - 48)) : m = none := by
  rw [drop_cons s j hlt, valN, if_pos hc] at h
  exact h.symm
theorem val_in {s : ByteArray} {j : Nat} {n : Int} {m : Option Int} (hlt : j < s.size) (h : valN n ((bts s).drop j) = m) (hc : ¬ 1099511627776 < n * 10 + ((s[j].toNat : Int) - 48)) :
    valN (n * 10 + ((s[j].toNat : Int) - 48)) ((bts s).drop (j + 1)) = m := by
  rw [drop_cons s j hlt, valN, if_neg hc] at h
  exact h

set_option maxHeartbeats 400000 in
theorem value_any (s : ByteArray) (w : World) (hd : allDig (bts s)) (h1 : 0 < s.size) (hs : s.size ≤ 9223372036854775807) :
    Calls Tryd.prog 101 #[.string s] w fun e w' => e = .returned (.tuple #[.int .i64 (valueP (bts s)).1, .int .i64 (valueP (bts s)).2]) ∧ Below w.heap.size w w' := by
  have h0 : (bts s).head? = some s[0] := by
    have := drop_cons s 0 h1
    rw [List.drop_zero] at this
    rw [this]; rfl
  by_cases hz : 1 < s.size ∧ s[0].toNat = 48
  · have hv : valueP (bts s) = (0, 5) := by
      rw [valueP, if_pos ⟨by rw [← size_bts]; exact hz.1, by rw [h0]; simp [hz.2]⟩]
    have HV := Lib.hid hv
    obtain ⟨hz1, hz2⟩ := hz
    have hz3 : ((s[0].toNat : Int) == 48) = true := by simp; omega
    have HD := Lib.hid hd
    clear hv h0 hd hz2
    go_enter Tryd.func101, Tryd.ntmps101
    go_wp2
    go_ret2
    exact ⟨ret_ints (by rw [HV.out]) (by rw [HV.out]), Below.refl _ _⟩
  · have hz' : 1 < s.size → ((s[0].toNat : Int) == 48) = false := by intro h; simp; omega
    obtain ⟨m, hm⟩ : ∃ m, valN 0 (bts s) = m := ⟨_, rfl⟩
    have hv : valueP (bts s) = valPair m := by
      rw [valueP, if_neg (fun h => hz ⟨by rw [size_bts]; exact h.1, by have := h.2; rw [h0] at this; simpa using this⟩), hm]
    have HV := Lib.hid hv
    have HM := Lib.hid hm
    have HD := Lib.hid hd
    clear hv h0 hd hm hz
    by_cases hs1 : 1 < s.size
    case' pos => have hz3 := hz' hs1; clear hz'
    case' neg => clear hz'
    all_goals
      go_enter Tryd.func101, Tryd.ntmps101
      go_wp2
      go_loopw [4] (fun i wr => ∃ (j : Nat) (n : Int), j ≤ s.size ∧ i = .int .i64 n ∧ 0 ≤ n ∧ n ≤ 1099511627776 ∧ wr = w.iter s j ∧ valN n ((bts s).drop j) = m) (fun _ wr => s.size - iterPos w.heap.size wr)
      case atStart => exact ⟨0, 0, by omega, rfl, by omega, by omega, rfl, HM.out⟩
      case round =>
        obtain ⟨j, n, hj, rfl, hn0, hn1, rfl, hr⟩ := hrel
        have HR := Lib.hid hr
        clear hr
        by_cases hlt : j < s.size
        · have hb := dig_at HD.out hlt
          have hnx := fun ty => run_next_ascii (P := Tryd.prog) w s j ty hlt (by omega)
          go_wp2
          · go_ret2
            have h9 := HV.out
            rw [val_out hlt HR.out ‹_›] at h9
            exact ⟨ret_ints (by rw [h9]; rfl) (by rw [h9]; rfl), below_iter _ _ _⟩
          · exact ⟨⟨j + 1, _, by omega, rfl, by omega, by omega, rfl, val_in hlt HR.out (by omega)⟩, by rw [iterPos_iter, iterPos_iter]; omega⟩
        · have hnx := fun ty => run_next_end (P := Tryd.prog) w s j ty hlt
          go_wp2
          go_ret2
          have h9 := HV.out
          rw [val_end hlt HR.out] at h9
          exact ⟨ret_ints (by rw [h9]; rfl) (by rw [h9]; rfl), below_iter _ _ _⟩

set_option maxHeartbeats 1000000 in
theorem isMark_any (s : ByteArray) (w : World) :
    Calls Tryd.prog 102 #[.string s] w fun e w' => e = .returned (.bool (isMarkP (bts s))) ∧ w = w' := by
  go_enter Tryd.func102, Tryd.ntmps102
  go_wp2
  all_goals
    go_ret
    refine ⟨ret_bool ?_, rfl⟩
    rw [← toList_bts, isMarkP, marks]
    first | (simp only [List.contains_cons, List.contains_nil, *, Bool.or_false, Bool.true_or, Bool.or_true]; done) | (exfalso; simp_all)

end Go.Proofs.YtbmcfodhjibooaaDoor

namespace Go.Proofs.YtbmcfodhjibooaaDoor
open Go.RowKit Saw

/-- A lexeme as the model holds it by value. -/
def lxAgg (x : Lx) : Value := .agg #[.int .i64 x.kind, .string (str x.text), .int .i64 x.num, .int .i64 x.off]

def ReadPost (l : List UInt8) (n : Int) (w : World) (e : Ending) (w' : World) : Prop :=
  e = .returned (.tuple #[lxAgg (readP l n).1, .int .i64 (readP l n).2]) ∧ Below w.heap.size w w'

theorem bcell {W w1 : World} {n : Nat} (hb : Below n W w1) : (∀ b o, b < n → w1.cell? ⟨b, o, none⟩ = W.cell? ⟨b, o, none⟩) ∧ (∀ b o, b < n → w1.frozen? ⟨b, o, none⟩ = W.frozen? ⟨b, o, none⟩) :=
  ⟨fun b o h => hb.cell (p := ⟨b, o, none⟩) h, fun b o h => hb.frozen (p := ⟨b, o, none⟩) h⟩

theorem below_box {w w' : World} {o : Obj} (hbw : Below (w.heap.size + 1) (w.alloc o) w') : Below w.heap.size w w' :=
  ((Below.refl _ _).alloc (Nat.le_refl _) _).trans (hbw.mono (by omega))

theorem part_at (s : ByteArray) (k m : Nat) (w : World) (h1 : k ≤ s.size) (hs : s.size ≤ 9223372036854775807) (hm : spanN partI ((bts s).drop k) = m) :
    Calls Tryd.prog 98 #[.string s, .int .i64 k, .func (.func 99) #[] #[]] w fun e w' => e = .returned (.string (str (((bts s).drop k).take m))) ∧ w = w' := by
  refine (run_part s k w (by omega) (by omega) hs).mono ?_
  rintro e w' ⟨rfl, rfl⟩
  rw [Int.toNat_natCast, hm, extract_str]
  refine ⟨?_, rfl⟩
  congr 4
  omega
theorem digit_at (s : ByteArray) (k m : Nat) (w : World) (h1 : k ≤ s.size) (hs : s.size ≤ 9223372036854775807) (hm : spanN digI ((bts s).drop k) = m) :
    Calls Tryd.prog 98 #[.string s, .int .i64 k, .func (.func 100) #[] #[]] w fun e w' => e = .returned (.string (str (((bts s).drop k).take m))) ∧ w = w' := by
  refine (run_digit s k w (by omega) (by omega) hs).mono ?_
  rintro e w' ⟨rfl, rfl⟩
  rw [Int.toNat_natCast, hm, extract_str]
  refine ⟨?_, rfl⟩
  congr 4
  omega

set_option maxHeartbeats 400000 in
theorem read_name (s : ByteArray) (k : Nat) (w : World) (hlt : k < s.size) (hs : s.size ≤ 9223372036854775807) (hc : letI' (s[k].toNat) = true) :
    Calls Tryd.prog 72 #[.string s, .int .i64 k] w (ReadPost ((bts s).drop k) k w) := by
  have hb : s[k].toNat < 256 := s[k].toNat_lt
  have hle := spanN_le partI ((bts s).drop k)
  have hlen : ((bts s).drop k).length = s.size - k := by rw [List.length_drop, ← size_bts]
  have hv : readP ((bts s).drop k) k = if 16 < spanN partI ((bts s).drop k) then (Lx.zero, 6) else (⟨1, ((bts s).drop k).take (spanN partI ((bts s).drop k)), 0, k⟩, 0) := by
    conv => lhs; rw [readP.eq_def]
    simp only [drop_cons s k hlt, hc, if_true]
  obtain ⟨m, hm⟩ : ∃ m, spanN partI ((bts s).drop k) = m := ⟨_, rfl⟩
  rw [hm] at hv hle
  have hz : (str (((bts s).drop k).take m)).size = m := by rw [size_str, List.length_take]; omega
  have hz' : m ≤ 9223372036854775807 := by omega
  have HV := Lib.hid hv
  have HM := Lib.hid hm
  obtain ⟨t, ht⟩ : ∃ t, str (((bts s).drop k).take m) = t := ⟨_, rfl⟩
  rw [ht] at hz
  have HT := Lib.hid ht
  have HZ := Lib.hid hz
  have HL := Lib.hid hlen
  clear hv hm hz hlen hle ht
  by_cases h16 : 16 < t.size
  all_goals
    go_enter Tryd.func72, Tryd.ntmps72
    go_wp2_with fail
    refine (isLetter_any _ _).mono ?_
    rintro e w' ⟨rfl, rfl⟩
    go_wp2_with fail
    refine (part_at s k m _ (by omega) hs HM.out).mono ?_
    rintro e w' ⟨he, rfl⟩
    rw [HT.out] at he
    subst he
    go_wp2_with fail
  · refine bodyPost_ret (v := .tuple #[.agg #[.int .i64 0, .string ⟨#[]⟩, .int .i64 0, .int .i64 0], .int .i64 6]) (by simp [results, Tryd.results72, go_sem]) rfl ⟨?_, (Below.refl _ _).alloc (Nat.le_refl _) _⟩
    rw [HV.out, if_pos (by rw [← HZ.out]; exact h16)]
    rfl
  · refine bodyPost_ret (v := .tuple #[.agg #[.int .i64 1, .string t, .int .i64 0, .int .i64 k], .int .i64 0]) (by simp [results, Tryd.results72, go_sem]) rfl ⟨?_, (Below.refl _ _).alloc (Nat.le_refl _) _⟩
    rw [HV.out, if_neg (by rw [← HZ.out]; exact h16), ← HT.out]
    rfl

set_option maxHeartbeats 400000 in
theorem read_number (s : ByteArray) (k : Nat) (w : World) (hlt : k < s.size) (hs : s.size ≤ 9223372036854775807) (hc : letI' (s[k].toNat) = false) (hd : digI (s[k].toNat) = true) :
    Calls Tryd.prog 72 #[.string s, .int .i64 k] w (ReadPost ((bts s).drop k) k w) := by
  have hb : s[k].toNat < 256 := s[k].toNat_lt
  have hle := spanN_le digI ((bts s).drop k)
  have hlen : ((bts s).drop k).length = s.size - k := by rw [List.length_drop, ← size_bts]
  have hv : readP ((bts s).drop k) k = if (valueP (((bts s).drop k).take (spanN digI ((bts s).drop k)))).2 = 0 then (⟨2, ((bts s).drop k).take (spanN digI ((bts s).drop k)), (valueP (((bts s).drop k).take (spanN digI ((bts s).drop k)))).1, k⟩, 0)
      else (Lx.zero, (valueP (((bts s).drop k).take (spanN digI ((bts s).drop k)))).2) := by
    conv => lhs; rw [readP.eq_def]
    simp only [drop_cons s k hlt, hc, hd, if_true, Bool.false_eq_true, if_false]
  have hall := span_dig_all ((bts s).drop k)
  have hpos : 0 < spanN digI ((bts s).drop k) := by rw [drop_cons s k hlt, spanN, if_pos hd]; omega
  obtain ⟨m, hm⟩ : ∃ m, spanN digI ((bts s).drop k) = m := ⟨_, rfl⟩
  rw [hm] at hv hle hall hpos
  have hz : (str (((bts s).drop k).take m)).size = m := by rw [size_str, List.length_take]; omega
  obtain ⟨t, ht⟩ : ∃ t, str (((bts s).drop k).take m) = t := ⟨_, rfl⟩
  have hbt : bts t = ((bts s).drop k).take m := by rw [← ht, bts_str]
  rw [ht] at hz
  rw [← hbt] at hall hv
  have hz1 : t.size ≤ 9223372036854775807 := by omega
  have hz2 : 0 < t.size := by omega
  obtain ⟨v, er, hver⟩ : ∃ v er, valueP (bts t) = (v, er) := ⟨_, _, rfl⟩
  rw [hver] at hv
  have HV := Lib.hid hv
  have HVE := Lib.hid hver
  have HM := Lib.hid hm
  have HT := Lib.hid ht
  have HB := Lib.hid hbt
  have HA := Lib.hid hall
  have HL := Lib.hid hlen
  clear hv hm hz hlen hle ht hver hbt hall hpos
  by_cases he0 : er = 0
  case' pos => subst he0
  case' neg => have hen : (er != 0) = true := by simpa using he0
  all_goals
    go_enter Tryd.func72, Tryd.ntmps72
    go_wp2_with fail
    refine (isLetter_any _ _).mono ?_
    rintro e w' ⟨rfl, rfl⟩
    go_wp2_with fail
    refine (isDigit_any _ _).mono ?_
    rintro e w' ⟨rfl, rfl⟩
    go_wp2_with fail
    refine (digit_at s k m _ (by omega) hs HM.out).mono ?_
    rintro e w' ⟨he, rfl⟩
    rw [HT.out] at he
    subst he
    go_wp2_with fail
    refine (value_any t _ HA.out hz2 hz1).mono ?_
    rintro e w' ⟨he, hbw⟩
    rw [HVE.out] at he
    subst he
    simp only [World.size_alloc] at hbw
    obtain ⟨hcl, hfr⟩ := bcell hbw
    go_wp2_with fail
  · have hc0 := hcl w.heap.size
    refine bodyPost_ret (v := .tuple #[.agg #[.int .i64 0, .string ⟨#[]⟩, .int .i64 0, .int .i64 0], .int .i64 er]) (by simp [results, Tryd.results72, go_sem, hc0]) rfl ⟨?_, ?_⟩
    · rw [HV.out, if_neg he0]
      rfl
    · exact ((((below_box hbw).setCell (Nat.le_refl _) _).setCell (Nat.le_refl _) _).setCell (Nat.le_refl _) _).setCell (Nat.le_refl _) _
  · have hc0 := hcl w.heap.size
    refine bodyPost_ret (v := .tuple #[.agg #[.int .i64 2, .string t, .int .i64 v, .int .i64 k], .int .i64 0]) (by simp [results, Tryd.results72, go_sem, hc0]) rfl ⟨?_, ?_⟩
    · rw [HV.out, if_pos trivial]
      simp only [lxAgg, HB.out, HT.out]
    · exact ((((below_box hbw).setCell (Nat.le_refl _) _).setCell (Nat.le_refl _) _).setCell (Nat.le_refl _) _).setCell (Nat.le_refl _) _

end Go.Proofs.YtbmcfodhjibooaaDoor

namespace Go.Proofs.YtbmcfodhjibooaaDoor
open Go.RowKit Saw

theorem take_at (s : ByteArray) (k m : Nat) : s.extract k (k + m) = str (((bts s).drop k).take m) := by
  rw [extract_str]; congr 2; omega

def markAt (s : ByteArray) (k m : Nat) : Bool := decide (k + m ≤ s.size) && isMarkP (((bts s).drop k).take m)

theorem mark_less {s : ByteArray} {k z : Nat} (hz : z ≤ 2) (hz1 : 0 < z) (h : markAt s k z = false) (h2 : z < 2 → markAt s k 2 = false) :
    (z - 1 < 2 → markAt s k 2 = false) ∧ (z - 1 < 1 → markAt s k 1 = false) := by
  rcases (show z = 1 ∨ z = 2 by omega) with rfl | rfl
  · exact ⟨fun _ => h2 (by omega), fun _ => h⟩
  · exact ⟨fun _ => h, fun h => absurd h (by omega)⟩
theorem mark_found {s : ByteArray} {k z : Nat} {n : Int} (hz : z ≤ 2) (hz1 : 0 < z) (h : markAt s k z = true) (h2 : z < 2 → markAt s k 2 = false) :
    (if markAt s k 2 = true then ((⟨3, ((bts s).drop k).take 2, 0, n⟩ : Lx), (0 : Int)) else if markAt s k 1 = true then (⟨3, ((bts s).drop k).take 1, 0, n⟩, 0) else (Lx.zero, 5)) = (⟨3, ((bts s).drop k).take z, 0, n⟩, 0) := by
  rcases (show z = 1 ∨ z = 2 by omega) with rfl | rfl
  · rw [if_neg (by rw [h2 (by omega)]; decide), if_pos h]
  · rw [if_pos h]

set_option maxHeartbeats 400000 in
theorem read_mark (s : ByteArray) (k : Nat) (w : World) (hlt : k < s.size) (hs : s.size ≤ 9223372036854775807 - 2) (hc : letI' (s[k].toNat) = false) (hd : digI (s[k].toNat) = false) :
    Calls Tryd.prog 72 #[.string s, .int .i64 k] w (ReadPost ((bts s).drop k) k w) := by
  have hb : s[k].toNat < 256 := s[k].toNat_lt
  have hlen : ((bts s).drop k).length = s.size - k := by rw [List.length_drop, ← size_bts]
  have hv : readP ((bts s).drop k) k = if markAt s k 2 = true then (⟨3, ((bts s).drop k).take 2, 0, k⟩, 0) else if markAt s k 1 = true then (⟨3, ((bts s).drop k).take 1, 0, k⟩, 0) else (Lx.zero, 5) := by
    conv => lhs; rw [readP.eq_def]
    rw [drop_cons s k hlt]
    simp only [hc, hd, Bool.false_eq_true, if_false]
    rw [← drop_cons s k hlt]
    have e2 : (2 ≤ ((bts s).drop k).length ∧ isMarkP (((bts s).drop k).take 2) = true) = (markAt s k 2 = true) := by
      simp only [markAt, Bool.and_eq_true, decide_eq_true_eq, hlen]
      rw [show (2 ≤ s.size - k) = (k + 2 ≤ s.size) by apply propext; omega]
    have e1 : (isMarkP (((bts s).drop k).take 1) = true) = (markAt s k 1 = true) := by
      simp only [markAt, Bool.and_eq_true, decide_eq_true_eq]
      rw [eq_true (show k + 1 ≤ s.size by omega), true_and]
    simp only [e2, e1]
  have HV := Lib.hid hv
  clear hv hlen
  go_enter Tryd.func72, Tryd.ntmps72
  go_wp2_with fail
  refine (isLetter_any _ _).mono ?_
  rintro e w' ⟨rfl, rfl⟩
  go_wp2_with fail
  refine (isDigit_any _ _).mono ?_
  rintro e w' ⟨rfl, rfl⟩
  go_wp2_with fail
  go_loop [11] (fun i => ∃ z : Nat, z ≤ 2 ∧ i = .int .i64 z ∧ (z < 2 → markAt s k 2 = false) ∧ (z < 1 → markAt s k 1 = false)) (fun i => (intOf i).toNat)
  case atStart => exact ⟨2, by omega, rfl, by omega, by omega⟩
  case round =>
    obtain ⟨z, hz, rfl, hr2, hr1⟩ := hrel
    have H2 := Lib.hid hr2
    have H1 := Lib.hid hr1
    clear hr2 hr1
    by_cases hz0 : z = 0
    · subst hz0
      go_wp2_with fail
      refine bodyPost_ret (v := .tuple #[.agg #[.int .i64 0, .string ⟨#[]⟩, .int .i64 0, .int .i64 0], .int .i64 5]) (by simp [results, Tryd.results72, go_sem]) rfl ⟨?_, ?_⟩
      · rw [HV.out, if_neg (by rw [H2.out (by omega)]; decide), if_neg (by rw [H1.out (by omega)]; decide)]
        rfl
      · exact (Below.refl _ _).alloc (Nat.le_refl _) _
    · have hz1 : 0 < z := by omega
      by_cases hin : k + z ≤ s.size
      · obtain ⟨b, hbm⟩ : ∃ b, isMarkP (((bts s).drop k).take z) = b := ⟨_, rfl⟩
        have hm : markAt s k z = b := by simp [markAt, hin, hbm]
        have HB := Lib.hid hbm
        have HM := Lib.hid hm
        clear hbm hm
        go_wp2_with fail
        refine (isMark_any _ _).mono ?_
        rintro e w' ⟨he, rfl⟩
        rw [take_at, bts_str, HB.out] at he
        subst he
        cases b
        · go_wp2_with fail
          exact ⟨⟨z - 1, by omega, by go_num, mark_less hz hz1 HM.out H2.out⟩, by simp [intOf]; omega⟩
        · go_wp2_with fail
          have HX := take_at s k z
          refine bodyPost_ret (v := .tuple #[.agg #[.int .i64 3, .string (s.extract k (k + z)), .int .i64 0, .int .i64 k], .int .i64 0]) (by simp [results, Tryd.results72, go_sem]) rfl ⟨?_, ?_⟩
          · rw [HV.out, HX, mark_found hz hz1 HM.out H2.out]
            rfl
          · exact (Below.refl _ _).alloc (Nat.le_refl _) _
      · go_wp2_with fail
        exact ⟨⟨z - 1, by omega, by go_num, mark_less hz hz1 (by simp [markAt, hin]) H2.out⟩, by simp [intOf]; omega⟩

theorem read_any (s : ByteArray) (k : Nat) (w : World) (hlt : k < s.size) (hs : s.size ≤ 9223372036854775807 - 2) :
    Calls Tryd.prog 72 #[.string s, .int .i64 k] w (ReadPost ((bts s).drop k) k w) := by
  cases hc : letI' (s[k].toNat)
  · cases hd : digI (s[k].toNat)
    · exact read_mark s k w hlt hs hc hd
    · exact read_number s k w hlt (by omega) hc hd
  · exact read_name s k w hlt (by omega) hc

end Go.Proofs.YtbmcfodhjibooaaDoor

namespace Go.Proofs.YtbmcfodhjibooaaDoor
open Go.RowKit Saw

/-- The cells of a lexeme, and of a list of them. -/
def lxCells (x : Lx) : List Value := [.int .i64 x.kind, .string (str x.text), .int .i64 x.num, .int .i64 x.off]
def lxsCells (l : List Lx) : List Value := l.flatMap lxCells
theorem lxsCells_snoc (l : List Lx) (x : Lx) : lxsCells (l ++ [x]) = lxsCells l ++ lxCells x := by simp [lxsCells]
theorem lxsCells_length (l : List Lx) : (lxsCells l).length = l.length * 4 := by
  induction l with
  | nil => rfl
  | cons x r ih =>
    have : lxsCells (x :: r) = lxCells x ++ lxsCells r := rfl
    rw [this, List.length_append, ih, List.length_cons]
    simp [lxCells]; omega

/-- A slice that owns its lexemes, from a block on. -/
def OwnsLx (w : World) (base : Nat) (v : Value) (l : List Lx) : Prop := w.ownsRow base 109 4 v l.length (lxsCells l)

theorem info_lx : (Tryd.prog.info? 109).map (fun i => (i.zero, i.size, i.bytes)) = some (some (.agg #[.int .i64 0, .string ⟨#[]⟩, .int .i64 0, .int .i64 0]), 4, 40) := by kernel_rfl

theorem cell_new4 (w : World) (t : TypeId) (c0 c1 c2 c3 : Value) (j : Nat) (u : Value) (h : [c0, c1, c2, c3][j]? = some u) :
    (w.alloc (.cells #[c0, c1, c2, c3] t)).cell? ((⟨w.heap.size, 0, none⟩ : Addr).add j) = some u := by
  have hadd : (⟨w.heap.size, 0, none⟩ : Addr).add j = ⟨w.heap.size, j, none⟩ := by unfold Addr.add; split <;> simp_all
  rw [hadd, World.cell?_alloc_at _ _ _ _ rfl, ← h]
  simp

/-- One lexeme appended to a row of the call's own. -/
theorem append_lx {ops : Array Oper} {rest : List Oper} {o : Oper} {a : Act} {Q : Exit → Act → World → Prop} (W : World) (hgd : o.guard = none) (s x : Operand)
    (ho : o.op = .call { callee := .builtin .append, args := #[s, x], argTypes := #[67, 67] })
    (base : Nat) (v : Value) (l : List Lx) (hs : a.eval s = v) (hown : OwnsLx W base v l) (hl : l.length ≤ 100000) (hbase : base ≤ W.heap.size)
    (y : Lx) (k : Int) (t : ByteArray) (n p : Int) (hx : a.eval x = .slice (some ⟨W.heap.size, 0, none⟩) 1 1) (hy : [.int .i64 k, .string t, .int .i64 n, .int .i64 p] = lxCells y)
    (h : ∀ v' w', OwnsLx w' base v' (l ++ [y]) → W.grownBy w' v.ownBlock → wpList Tryd.prog ops Q rest (a.put o.dst v') w') :
    wpList Tryd.prog ops Q (o :: rest) a (W.alloc (.cells #[.int .i64 k, .string t, .int .i64 n, .int .i64 p] 109)) := by
  obtain ⟨i0, hi, hz0, hz1, hz2⟩ := info_parts info_lx
  refine wpList_append_own _ hgd s x 67 ho base 109 i0 _ 4 40 Tryd.underlying67 hi hz0 hz1 hz2 rfl (by decide) v l.length (lxsCells l) hs (World.ownsRow.alloc hown _) ⟨W.heap.size, 0, none⟩ 1 1
    [.int .i64 k, .string t, .int .i64 n, .int .i64 p] hx rfl (cell_new4 W _ _ _ _ _) (by simp [Value.oneCell']) (by simp only [maxLen]; omega) (by omega) (by rw [World.size_alloc]; omega) ?_
  intro v' w' hown' hg _
  refine h v' w' ?_ ?_
  · unfold OwnsLx
    rw [List.length_append, lxsCells_snoc, ← hy]
    exact hown'
  · exact ⟨hg.os, hg.tape, hg.output, by have := hg.size; rw [World.size_alloc] at this; omega, fun i hi hne => (hg.block i (by rw [World.size_alloc]; omega) hne).trans (Below.heap_alloc W _ i hi)⟩

theorem ownsRow_below {w w' : World} {base B : Nat} {e : TypeId} {size n : Nat} {v : Value} {xs : List Value} (h : w.ownsRow base e size v n xs) (hb : Below B w w') (hB : w.heap.size ≤ B := by exact Nat.le_refl _) : w'.ownsRow base e size v n xs := by
  refine ⟨h.1, ?_⟩
  rcases h.2 with hn | ⟨g, cap, cur, rfl, hbg, hgg, rest⟩
  · exact .inl hn
  · exact .inr ⟨g, cap, cur, rfl, hbg, (hb.block g (Nat.lt_of_lt_of_le (Array.getElem?_eq_some_iff.1 hgg).1 hB)).trans hgg, rest⟩

theorem box_kept {W w' : World} {b i : Nat} {row : Option Nat} {u : Value} (hg : W.grownBy w' row) (hr : some b ≠ row) (h : W.cell? ⟨b, i, none⟩ = some u) : w'.cell? ⟨b, i, none⟩ = some u :=
  hg.cell (a := ⟨b, i, none⟩) h hr

theorem below_scan {w wr w1 w2 : World} {o : Obj} {row : Option Nat} (h : Below w.heap.size w wr) (h1 : Below wr.heap.size wr w1) (hg : (w1.alloc o).grownBy w2 row) (hr : ∀ b, row = some b → w.heap.size ≤ b) : Below w.heap.size w w2 :=
  ((h.trans (h1.mono h.size)).alloc (Nat.le_trans h.size h1.size) o).grown hg (by rw [World.size_alloc]; have := h.size; have := h1.size; omega) hr

def ScanPost (l : List UInt8) (w : World) (e : Ending) (w' : World) : Prop :=
  ∃ v, e = .returned (.tuple #[v, .int .i64 (scanP l).2.1, .int .i64 (scanP l).2.2]) ∧ OwnsLx w' w.heap.size v (scanP l).1 ∧ Below w.heap.size w w'

set_option maxHeartbeats 400000 in
theorem scan_long (s : ByteArray) (w : World) (hl : 8000 < s.size) (hs : s.size ≤ 9223372036854775807) :
    Calls Tryd.prog 35 #[.string s] w (ScanPost (bts s) w) := by
  have hv : scanP (bts s) = ([], 4, 0) := by rw [scanP, if_pos (by rw [← size_bts]; exact hl)]
  have HV := Lib.hid hv
  clear hv
  go_enter Tryd.func35, Tryd.ntmps35
  go_wp2_with fail
  go_ret3
  refine ⟨.slice none 0 0, ?_, ?_, Below.refl _ _⟩
  · rw [HV.out]
    rfl
  · rw [HV.out]
    exact World.ownsRow_nil _ _ _ _

def ScanRel (s : ByteArray) (w : World) (R : List Lx × Int × Int) (v i : Value) (wr : World) : Prop :=
  ∃ (k : Nat) (xs : List Lx), k ≤ s.size ∧ i = .int .i64 k ∧ xs.length ≤ k ∧ OwnsLx wr w.heap.size v xs ∧ Below w.heap.size w wr ∧ lxAhead xs (scanR ((bts s).drop k) k) = R

set_option maxRecDepth 100000 in
set_option maxHeartbeats 400000 in
theorem scan_short (s : ByteArray) (w : World) (hl : s.size ≤ 8000) :
    Calls Tryd.prog 35 #[.string s] w (ScanPost (bts s) w) := by
  obtain ⟨R, hR⟩ : ∃ R, scanP (bts s) = R := ⟨_, rfl⟩
  obtain ⟨i0, hi, hz0, hz1, hz2⟩ := info_parts info_lx
  have hsk := skipN_le (bts s) false
  obtain ⟨k0, hk0⟩ : ∃ k0, skipN false (bts s) = k0 := ⟨_, rfl⟩
  rw [hk0, ← size_bts] at hsk
  have hR' : lxAhead [] (scanR ((bts s).drop k0) k0) = R := by
    rw [lxAhead_nil _ (scanR_zero _ _), ← hR, scanP, if_neg (by rw [← size_bts]; omega), hk0]
  have HR := Lib.hid hR
  have HR' := Lib.hid hR'
  have HK := Lib.hid hk0
  clear hR hR' hk0
  go_enter Tryd.func35, Tryd.ntmps35
  go_wp2_with fail
  refine (skip_any _ _ _ (by omega) (by omega) (by omega)).mono ?_
  rintro e w' ⟨he, rfl⟩
  rw [Int.toNat_zero, List.drop_zero, HK.out, Int.zero_add] at he
  subst he
  go_wp2_with fail
  go_loopw [5, 6] (fun v i wr => ScanRel s w R v i wr) (fun _ i _ => s.size - (intOf i).toNat)
  case atStart => exact ⟨k0, [], hsk, rfl, by simp, World.ownsRow_nil _ _ _ _, Below.refl _ _, HR'.out⟩
  case round =>
    obtain ⟨k, xs, hk, rfl, hxk, hown, hbw, hrel⟩ := hrel
    have HREL := Lib.hid hrel
    have HOWN := Lib.hid hown
    clear hrel hown
    by_cases hlt : k < s.size
    · obtain ⟨x, er, hx⟩ : ∃ x er, readP ((bts s).drop k) k = (x, er) := ⟨_, _, rfl⟩
      have HX := Lib.hid hx
      clear hx
      by_cases he0 : er = 0
      · subst he0
        obtain ⟨hne, htx, hoff, _⟩ : 0 < x.text.length ∧ x.text = ((bts s).drop k).take x.text.length ∧ x.off = k ∧ x.kind ≠ 0 := by
          have h := readP_text ((bts s).drop k) k (by rw [HX.out])
          rw [HX.out] at h
          exact h
        have hlen : k + x.text.length ≤ s.size := by
          have h1 : x.text.length ≤ ((bts s).drop k).length := by rw [htx]; exact List.length_take_le' _ _
          rw [List.length_drop, ← size_bts] at h1
          omega
        have hsz : (str x.text).size = x.text.length := size_str _
        obtain ⟨m, hm⟩ : ∃ m, x.text.length = m := ⟨_, rfl⟩
        rw [hm] at hne hlen hsz
        obtain ⟨t, ht⟩ : ∃ t, str x.text = t := ⟨_, rfl⟩
        rw [ht] at hsz
        have hts : t.size ≤ 8000 := by omega
        have htm : t.size ≤ m := by omega
        have htm2 : m ≤ t.size := by omega
        have HSZ := Lib.hid hsz
        have HM := Lib.hid hm
        have HT := Lib.hid ht
        have HTX := Lib.hid htx
        have HOFF := Lib.hid hoff
        clear hsz hm ht htx hoff
        go_wp2_with fail
        refine (read_any s k _ hlt (by omega)).mono ?_
        rintro e w1 ⟨he, hbw1⟩
        rw [HX.out] at he
        simp only [lxAgg, HT.out] at he
        subst he
        have HB1 := Lib.hid hbw1
        have hsz1 := hbw1.size
        clear hbw1
        have hown1 : OwnsLx (w1.alloc (.cells #[.int .i64 x.kind, .string t, .int .i64 x.num, .int .i64 x.off] 109)) w.heap.size u5 xs := World.ownsRow.alloc (ownsRow_below HOWN.out HB1.out) _
        have HOWN1 := Lib.hid hown1
        clear hown1
        have hu5 : ∀ b, u5.ownBlock = some b → b < wr.heap.size := fun b hb => (HOWN.out.lt b hb).2
        have HU5 := Lib.hid hu5
        clear hu5
        go_wp2_with (at_builtin; refine append_lx (w1.alloc (.cells #[.int .i64 x.kind, .string t, .int .i64 x.num, .int .i64 x.off] 109)) rfl (.tmp 28) (.tmp 30) rfl w.heap.size u5 xs rfl HOWN1.out (by omega) (by have := hbw.size; rw [World.size_alloc]; omega) x x.kind t x.num x.off (by rw [World.size_alloc]; rfl) (by rw [lxCells, HT.out]) ?_; intro v2 w2 hown2 hg2; have HOWN2 := Lib.hid hown2; have HG2 := Lib.hid hg2; have hct : w2.cell? ⟨w1.heap.size, 1, none⟩ = some (.string t) := box_kept hg2 (fun e => by have := HU5.out _ e.symm; omega) (by rw [World.cell?_alloc_at _ _ _ _ rfl]; rfl); clear hown2 hg2)
        refine (skip_any _ _ _ (by omega) (by omega) (by omega)).mono ?_
        rintro e w3 ⟨he, rfl⟩
        obtain ⟨j, hj⟩ : ∃ j, skipN false ((bts s).drop (k + m)) = j := ⟨_, rfl⟩
        have hjl := skipN_le ((bts s).drop (k + m)) false
        rw [hj, List.length_drop, ← size_bts] at hjl
        rw [show ((k : Int) + (t.size : Int)).toNat = k + m by omega, hj] at he
        have hrel3 : lxAhead (xs ++ [x]) (scanR ((bts s).drop (k + m + j)) ((k + m + j : Nat) : Int)) = R := by
          have h := HREL.out
          rw [scanR_ok _ _ (by rw [drop_cons s k hlt]; simp) (by rw [HX.out]) m j (by rw [HX.out]; exact HM.out) (by rw [List.drop_drop]; exact hj), HX.out, lxAhead_lxAhead, List.drop_drop] at h
          rw [← h]
          congr 2
          · congr 1; omega
          · omega
        have HREL3 := Lib.hid hrel3
        have HJ := Lib.hid hj
        have hjk : ((k : Int) + (t.size : Int)) + (j : Int) = ((k + m + j : Nat) : Int) := by omega
        rw [hjk] at he
        subst he
        have HBW2 := Lib.hid (below_scan hbw HB1.out HG2.out (fun b hb => (HOWN.out.lt b hb).1))
        clear hrel3 hj hjk
        go_wp2_with fail
        exact ⟨⟨k + m + j, xs ++ [x], by omega, rfl, by simp; omega, HOWN2.out, HBW2.out, HREL3.out⟩, by simp [intOf]; omega⟩
      · have hen : (er != 0) = true := by simpa using he0
        go_wp2_with fail
        refine (read_any s k _ hlt (by omega)).mono ?_
        rintro e w1 ⟨he, hbw1⟩
        rw [HX.out] at he
        simp only [lxAgg] at he
        subst he
        go_wp2_with fail
        go_ret3
        have hRR : R = ([], er, (k : Int)) := by
          have h := HREL.out
          rw [scanR_err _ _ (by rw [drop_cons s k hlt]; simp) (by rw [HX.out]; exact he0), HX.out] at h
          rw [← h, lxAhead, if_neg he0]
        refine ⟨.slice none 0 0, ?_, ?_, ?_⟩
        · rw [HR.out, hRR]
          rfl
        · rw [HR.out, hRR]
          exact World.ownsRow_nil _ _ _ _
        · exact (hbw.trans (hbw1.mono hbw.size)).alloc (Nat.le_trans hbw.size hbw1.size) _
    · go_wp2_with (at_builtin; refine append_lx wr rfl (.tmp 39) (.tmp 43) rfl w.heap.size u5 xs rfl HOWN.out (by omega) hbw.size (lxEnd s.size) 0 ⟨#[]⟩ 0 s.size rfl rfl ?_; intro v2 w2 hown2 hg2; have HOWN2 := Lib.hid hown2; clear hown2)
      go_ret3
      obtain rfl : k = s.size := by omega
      have hRR : R = (xs ++ [lxEnd s.size], 0, 0) := by
        have h := HREL.out
        rw [drop_nil s s.size (by omega), scanR_nil] at h
        rw [← h]
        rfl
      refine ⟨v2, ?_, ?_, ?_⟩
      · rw [HR.out, hRR]
        rfl
      · rw [HR.out, hRR]
        exact HOWN2.out
      · exact hbw.grown hg2 hbw.size (fun b hb => (HOWN.out.lt b hb).1)

theorem scan_any (s : ByteArray) (w : World) (hs : s.size ≤ 9223372036854775807) : Calls Tryd.prog 35 #[.string s] w (ScanPost (bts s) w) := by
  by_cases hl : 8000 < s.size
  · exact scan_long s w hl hs
  · exact scan_short s w (by omega)

end Go.Proofs.YtbmcfodhjibooaaDoor

namespace Go.Proofs.YtbmcfodhjibooaaDoor
open Go.RowKit Saw

/-- The slice value v reads as the lexemes l. -/
def RdLx (w : World) (v : Value) (l : List Lx) : Prop := Rd w w.heap.size 4 v l.length (lxsCells l)

theorem lxs_at (l : List Lx) (i : Nat) (x : Lx) (h : l[i]? = some x) : (lxsCells l)[i * 4]? = some (.int .i64 x.kind) ∧ (lxsCells l)[i * 4 + 1]? = some (.string (str x.text)) ∧ (lxsCells l)[i * 4 + 2]? = some (.int .i64 x.num) ∧ (lxsCells l)[i * 4 + 3]? = some (.int .i64 x.off) := by
  induction l generalizing i with
  | nil => simp at h
  | cons y r ih =>
    have e : lxsCells (y :: r) = .int .i64 y.kind :: .string (str y.text) :: .int .i64 y.num :: .int .i64 y.off :: lxsCells r := rfl
    cases i with
    | zero =>
      simp only [List.getElem?_cons_zero, Option.some.injEq] at h
      subst h
      rw [e]
      simp
    | succ j =>
      simp only [List.getElem?_cons_succ] at h
      have := ih j h
      rw [e, show (j + 1) * 4 = j * 4 + 4 by omega]
      simpa using this

theorem RdLx.form {w : World} {v : Value} {l : List Lx} (h : RdLx w v l) : ∃ A c, v = .slice A l.length c ∧ l.length ≤ c ∧ l.length ≤ maxLen := by
  obtain ⟨_, h2, A, c, rfl, hc, _⟩ := h
  exact ⟨A, c, rfl, hc, h2⟩
theorem RdLx.at_ {w : World} {A : Option Addr} {n c : Nat} {l : List Lx} (h : RdLx w (.slice A n c) l) {i : Nat} {x : Lx} (hx : l[i]? = some x) :
    ∃ b off, A = some ⟨b, off, none⟩ ∧ b < w.heap.size ∧ w.cell? ⟨b, off + i * 4, none⟩ = some (.int .i64 x.kind) ∧ w.cell? ⟨b, off + i * 4 + 1, none⟩ = some (.string (str x.text)) ∧
      w.cell? ⟨b, off + i * 4 + 2, none⟩ = some (.int .i64 x.num) ∧ w.cell? ⟨b, off + i * 4 + 3, none⟩ = some (.int .i64 x.off) := by
  obtain ⟨_, _, A', c', he, _, h3⟩ := h
  injection he with h1 h2 h4
  subst h1
  have hi : i < l.length := (List.getElem?_eq_some_iff.1 hx).1
  obtain ⟨b, off, rfl, hb, hcell⟩ := h3 (by omega)
  obtain ⟨k0, k1, k2, k3⟩ := lxs_at l i x hx
  exact ⟨b, off, rfl, hb, hcell _ _ k0, hcell _ _ k1, hcell _ _ k2, hcell _ _ k3⟩

theorem fields_lx : Tryd.prog.underlying 109 = some (.struct (Tryd.prog.fieldsOf 109)) := by kernel_rfl
theorem stood_lx : Tryd.prog.stoodInHeld 109 = false := by kernel_rfl
theorem guard_lx : Tryd.prog.eqGuardType Tryd.prog.depth 109 = false := by kernel_rfl
theorem take_more {α : Type} {l l' : List α} {k : Nat} {x : α} (h : l.take k = l'.take k) (h1 : l[k]? = some x) (h2 : l'[k]? = some x) : l.take (k + 1) = l'.take (k + 1) := by
  rw [List.take_add_one, List.take_add_one, h, h1, h2]
theorem str_inj {a b : List UInt8} (h : str a = str b) : a = b := by rw [← bts_str a, h, bts_str]
theorem lx_eqB (x y : Lx) : decide (x = y) = ((x.kind == y.kind) && ((x.text == y.text) && ((x.num == y.num) && (x.off == y.off)))) := by
  rw [Bool.eq_iff_iff]
  cases x; cases y
  simp
theorem eqIn_lx (x y : Lx) (W : World) : (Op.equalIn 10000 109 (.agg #[.int .i64 x.kind, .string (str x.text), .int .i64 x.num, .int .i64 x.off]) (.agg #[.int .i64 y.kind, .string (str y.text), .int .i64 y.num, .int .i64 y.off])).run Tryd.prog W = .ok (decide (x = y)) W := by
  have u3 := Tryd.underlying3
  have a3 := Tryd.isAgg3
  have z3 := Tryd.sizeOf3
  have u9 := Tryd.underlying9
  have a9 := Tryd.isAgg9
  have z9 := Tryd.sizeOf9
  rw [show (10000 : Nat) = 9999 + 1 from rfl, run_equalIn_agg W 9999 109 _ _ fields_lx stood_lx, lx_eqB]
  simp only [Program.fieldsOf, Tryd.underlying109]
  go_simp
  simp only [toList_bts, bts_str]
  by_cases h1 : x.kind = y.kind <;> by_cases h2 : x.text = y.text <;> by_cases h3 : x.num = y.num <;> by_cases h4 : x.off = y.off <;> simp [h1, h2, h3, h4]
theorem eql_lx (x y : Lx) (W : World) : (binOp .eql 109 (.agg #[.int .i64 x.kind, .string (str x.text), .int .i64 x.num, .int .i64 x.off]) (.agg #[.int .i64 y.kind, .string (str y.text), .int .i64 y.num, .int .i64 y.off])).run Tryd.prog W = .ok (.bool (decide (x = y))) W := by
  rw [run_eql_struct, eqIn_lx]
  rfl
theorem neq_lx (x y : Lx) (W : World) : (binOp .neq 109 (.agg #[.int .i64 x.kind, .string (str x.text), .int .i64 x.num, .int .i64 x.off]) (.agg #[.int .i64 y.kind, .string (str y.text), .int .i64 y.num, .int .i64 y.off])).run Tryd.prog W = .ok (.bool (!decide (x = y))) W := by
  rw [run_neq_struct, eqIn_lx]
  rfl

end Go.Proofs.YtbmcfodhjibooaaDoor
