/-
  The contracts of the lexer's functions value and IsMark.
-/
import Derived.Test.YtkalkglllgebkaaDoorLexA
namespace Go.Proofs.YtkalkglllgebkaaDoor
open Go.RowKit Saw

theorem ret_ints {k k' : IntKind} {a b a' b' : Int} (h : a = a') (h' : b = b') : Ending.returned (.tuple #[.int k a, .int k' b]) = .returned (.tuple #[.int k a', .int k' b']) := by rw [h, h']

def iterPos (b : Nat) (wr : World) : Nat := match wr.heap[b]? with | some (.stringIter _ j) => j | _ => 0
theorem iterPos_iter (w : World) (s : ByteArray) (j : Nat) : iterPos w.heap.size (w.iter s j) = j := by unfold iterPos; rw [World.iter_heap]
theorem below_iter (w : World) (s : ByteArray) (j : Nat) : Below w.heap.size w (w.iter s j) := (Below.refl _ _).alloc (Nat.le_refl _) _

theorem dig_at {s : ByteArray} {j : Nat} (h : allDig (bts s)) (hlt : j < s.size) : 48 ≤ s[j].toNat ∧ s[j].toNat ≤ 57 := by
  have h1 := h s[j] (by unfold bts; rw [Array.mem_toList_iff]; exact Array.getElem_mem hlt)
  simp [digI] at h1
  omega

theorem val_end {s : ByteArray} {j : Nat} {n : Int} {m : Option Int} (hlt : ¬ j < s.size) (h : valN n ((bts s).drop j) = m) : m = some n := by
  rw [drop_nil s j hlt] at h
  exact h.symm
theorem val_out {s : ByteArray} {j : Nat} {n : Int} {m : Option Int} (hlt : j < s.size) (h : valN n ((bts s).drop j) = m) (hc : 1099511627776 < n * 10 + ((s[j].toNat : Int) - 48)) : m = none := by
  rw [drop_cons s j hlt, valN, if_pos hc] at h
  exact h.symm
theorem val_in {s : ByteArray} {j : Nat} {n : Int} {m : Option Int} (hlt : j < s.size) (h : valN n ((bts s).drop j) = m) (hc : ¬ 1099511627776 < n * 10 + ((s[j].toNat : Int) - 48)) :
    valN (n * 10 + ((s[j].toNat : Int) - 48)) ((bts s).drop (j + 1)) = m := by
  rw [drop_cons s j hlt, valN, if_neg hc] at h
  exact h

set_option maxHeartbeats 400000 in
theorem value_any (s : ByteArray) (w : World) (hd : allDig (bts s)) (h1 : 0 < s.size) (hs : s.size ≤ 9223372036854775807) :
    Calls Tryd.prog 80 #[.string s] w fun e w' => e = .returned (.tuple #[.int .i64 (valueP (bts s)).1, .int .i64 (valueP (bts s)).2]) ∧ Below w.heap.size w w' := by
  have h0 : (bts s).head? = some s[0] := by
    have := drop_cons s 0 h1
    rw [List.drop_zero] at this
    rw [this]; rfl
  by_cases hz : 1 < s.size ∧ s[0].toNat = 48
  · have hv : valueP (bts s) = (0, 5) := by
      rw [valueP, if_pos ⟨by rw [← size_bts]; exact hz.1, by rw [h0]; simp [hz.2]⟩]
    have HV := Lib.hid hv
    obtain ⟨hz1, hz2⟩ := hz
    have hz3 : ((s[0].toNat : Int) == 48) = true := by simp; omega
    have HD := Lib.hid hd
    clear hv h0 hd hz2
    go_enter Tryd.func80, Tryd.ntmps80
    go_wp2
    go_ret2
    exact ⟨ret_ints (by rw [HV.out]) (by rw [HV.out]), Below.refl _ _⟩
  · have hz' : 1 < s.size → ((s[0].toNat : Int) == 48) = false := by intro h; simp; omega
    obtain ⟨m, hm⟩ : ∃ m, valN 0 (bts s) = m := ⟨_, rfl⟩
    have hv : valueP (bts s) = valPair m := by
      rw [valueP, if_neg (fun h => hz ⟨by rw [size_bts]; exact h.1, by have := h.2; rw [h0] at this; simpa using this⟩), hm]
    have HV := Lib.hid hv
    have HM := Lib.hid hm
    have HD := Lib.hid hd
    clear hv h0 hd hm hz
    by_cases hs1 : 1 < s.size
    case' pos => have hz3 := hz' hs1; clear hz'
    case' neg => clear hz'
    all_goals
      go_enter Tryd.func80, Tryd.ntmps80
      go_wp2
      go_loopw [4] (fun i wr => ∃ (j : Nat) (n : Int), j ≤ s.size ∧ i = .int .i64 n ∧ 0 ≤ n ∧ n ≤ 1099511627776 ∧ wr = w.iter s j ∧ valN n ((bts s).drop j) = m) (fun _ wr => s.size - iterPos w.heap.size wr)
      case atStart => exact ⟨0, 0, by omega, rfl, by omega, by omega, rfl, HM.out⟩
      case round =>
        obtain ⟨j, n, hj, rfl, hn0, hn1, rfl, hr⟩ := hrel
        have HR := Lib.hid hr
        clear hr
        by_cases hlt : j < s.size
        · have hb := dig_at HD.out hlt
          have hnx := fun ty => run_next_ascii (P := Tryd.prog) w s j ty hlt (by omega)
          go_wp2
          · go_ret2
            have h9 := HV.out
            rw [val_out hlt HR.out ‹_›] at h9
            exact ⟨ret_ints (by rw [h9]; rfl) (by rw [h9]; rfl), below_iter _ _ _⟩
          · exact ⟨⟨j + 1, _, by omega, rfl, by omega, by omega, rfl, val_in hlt HR.out (by omega)⟩, by rw [iterPos_iter, iterPos_iter]; omega⟩
        · have hnx := fun ty => run_next_end (P := Tryd.prog) w s j ty hlt
          go_wp2
          go_ret2
          have h9 := HV.out
          rw [val_end hlt HR.out] at h9
          exact ⟨ret_ints (by rw [h9]; rfl) (by rw [h9]; rfl), below_iter _ _ _⟩

set_option maxHeartbeats 1000000 in
theorem isMark_any (s : ByteArray) (w : World) :
    Calls Tryd.prog 81 #[.string s] w fun e w' => e = .returned (.bool (isMarkP (bts s))) ∧ w = w' := by
  go_enter Tryd.func81, Tryd.ntmps81
  go_wp2
  all_goals
    go_ret
    refine ⟨ret_bool ?_, rfl⟩
    rw [← toList_bts, isMarkP, marks]
    first | (simp only [List.contains_cons, List.contains_nil, *, Bool.or_false, Bool.true_or, Bool.or_true]; done) | (exfalso; simp_all)

end Go.Proofs.YtkalkglllgebkaaDoor
