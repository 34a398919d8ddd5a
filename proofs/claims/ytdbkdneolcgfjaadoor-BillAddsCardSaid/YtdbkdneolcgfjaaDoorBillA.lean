/-
  The contracts of slices.Contains (of numbers) and units.Nearest (as bills use it).
-/
import Derived.Test.YtdbkdneolcgfjaaDoorPrF
import Derived.Test.YtdbkdneolcgfjaaDoorBillP
namespace Go.Proofs.YtdbkdneolcgfjaaDoor
open Go.RowKit Saw Go.Sort

set_option maxHeartbeats 400000 in
theorem magnitude_any (n : Int) (w : World) (h0 : 0 ≤ n) (h1 : n ≤ 9223372036854775807) : Calls Tryd.prog 53 #[.int .i64 n] w fun e w' => e = .returned (.int .u64 n) ∧ w' = w := by
  go_enter Tryd.func53, Tryd.ntmps53
  go_wp2_with fail
  go_ret
  exact ⟨rfl, rfl⟩

set_option maxHeartbeats 400000 in
theorem raise_any (m d : Int) (w : World) (h0 : 0 ≤ m) (h1 : m ≤ d) (h2 : d ≤ 9223372036854775807) : Calls Tryd.prog 41 #[.int .u64 m, .int .u64 d] w fun e w' => e = .returned (.bool (decide (d - m ≤ m))) ∧ w' = w := by
  go_enter Tryd.func41, Tryd.ntmps41
  go_wp2_with fail
  go_ret
  exact ⟨rfl, rfl⟩

set_option maxHeartbeats 400000 in
theorem index_any (l : List Int) (v : Value) (n : Int) (w : World) (hrd : RdI w w.heap.size v l) :
    Calls Tryd.prog 40 #[v, .int .i64 n] w fun e w' => (∃ i : Int, e = .returned (.int .i64 i) ∧ -1 ≤ i ∧ i < 9223372036854775807 ∧ (0 ≤ i ↔ n ∈ l)) ∧ w' = w := by
  obtain ⟨A, c, rfl, hc, hml⟩ := hrd.form
  unfold maxLen at hml
  have HRD := Lib.hid hrd
  clear hrd
  go_enter Tryd.func40, Tryd.ntmps40
  go_wp2_with fail
  go_loop [8] (fun i => ∃ k : Nat, k ≤ l.length ∧ i = .int .i64 k ∧ n ∉ l.take k) (fun i => l.length - (intOf i).toNat)
  case atStart => exact ⟨0, by omega, rfl, by simp⟩
  case round =>
    obtain ⟨k, hk, rfl, hnk⟩ := hrel
    have HNK := Lib.hid hnk
    clear hnk
    by_cases hlt : k < l.length
    · have hx : l[k]? = some l[k] := List.getElem?_eq_getElem hlt
      obtain ⟨m, hm⟩ : ∃ m, l[k] = m := ⟨_, rfl⟩
      rw [hm] at hx
      obtain ⟨b, off, rfl, hbl, d0⟩ := RdI.at_ HRD.out hx
      have HX := Lib.hid hx
      clear hx hm
      by_cases hmn : n = m
      · subst hmn
        go_wp2_with fail
        go_ret
        exact ⟨⟨k, rfl, by omega, by omega, by simp [List.mem_of_getElem? HX.out]⟩, rfl⟩
      · have hmb : (n == m) = false := by rw [beq_eq_false_iff_ne]; exact hmn
        have HN := Lib.hid (show n ∉ l.take (k + 1) by rw [List.take_add_one, HX.out]; simp [HNK.out, hmn])
        clear hmn
        go_wp2_with fail
        exact ⟨⟨k + 1, by omega, by go_num, HN.out⟩, by simp [intOf]; omega⟩
    · have hn : n ∉ l := by have := HNK.out; rwa [List.take_of_length_le (by omega)] at this
      have HN := Lib.hid hn
      clear hn
      go_wp2_with fail
      go_ret
      exact ⟨⟨-1, rfl, by omega, by omega, by simp [HN.out]⟩, rfl⟩

set_option maxHeartbeats 400000 in
theorem contains_any (l : List Int) (v : Value) (n : Int) (w : World) (hrd : RdI w w.heap.size v l) :
    Calls Tryd.prog 25 #[v, .int .i64 n] w fun e w' => e = .returned (.bool (decide (n ∈ l))) ∧ w' = w := by
  have HRD := Lib.hid hrd
  clear hrd
  go_enter Tryd.func25, Tryd.ntmps25
  go_wp2_with fail
  refine (index_any l v n _ HRD.out).mono ?_
  rintro e w1 ⟨⟨i, rfl, h1, h2, h3⟩, rfl⟩
  have HI := Lib.hid h3
  clear h3
  go_wp2_with fail
  go_ret
  refine ⟨ret_bool ?_, rfl⟩
  rw [Bool.eq_iff_iff, decide_eq_true_eq, decide_eq_true_eq]
  exact HI.out

set_option maxRecDepth 100000 in
set_option maxHeartbeats 400000 in
theorem divide_any (a : Int) (w : World) (h0 : 0 ≤ a) (h1 : a ≤ 1000000000000000000) :
    Calls Tryd.prog 42 #[.agg #[.func (.func 41) #[] #[]], .int .i64 a, .int .i64 1000000000] w fun e w' => e = .returned (.tuple #[.int .i64 ((a + 500000000) / 1000000000), .bool true]) ∧ Below w.heap.size w w' := by
  obtain ⟨q, hq⟩ : ∃ q, a / 1000000000 = q := ⟨_, rfl⟩
  obtain ⟨m, hm⟩ : ∃ m, a % 1000000000 = m := ⟨_, rfl⟩
  obtain ⟨z, hz⟩ : ∃ z, q * 1000000000 = z := ⟨_, rfl⟩
  have t1 : a.tdiv 1000000000 = q := by rw [Int.tdiv_eq_ediv_of_nonneg h0]; exact hq
  have t2 : a.tmod 1000000000 = m := by rw [Int.tmod_eq_emod_of_nonneg h0]; exact hm
  have b1 : 0 ≤ m := by omega
  have b2 : m < 1000000000 := by omega
  have b3 : 0 ≤ q := by omega
  have b4 : q ≤ 1000000000 := by omega
  have hzm : a - z = m := by omega
  have b5 : 0 ≤ z := by omega
  have b6 : z ≤ 1000000000000000000 := by omega
  obtain ⟨r, hr⟩ : ∃ r, (a + 500000000) / 1000000000 = r := ⟨_, rfl⟩
  rw [hr]
  have e1 : decide ((1000000000 : Int) - m ≤ m) = true → r = q + 1 := by rw [decide_eq_true_eq]; omega
  have e2 : decide ((1000000000 : Int) - m ≤ m) = false → r = q := by rw [decide_eq_false_iff_not]; omega
  obtain ⟨k, hk⟩ : ∃ k, decide ((1000000000 : Int) - m ≤ m) = k := ⟨_, rfl⟩
  rw [hk] at e1 e2
  have HK := Lib.hid hk
  clear hk hr hq hm
  by_cases hm0 : m = 0
  · have hmb : (m != 0) = false := by rw [hm0]; rfl
    clear hm0
    cases k with
    | true =>
      have hr := e1 rfl
      subst hr
      clear e1 e2
      go_enter Tryd.func42, Tryd.ntmps42
      go_wp2_with fail
      go_quiet ((first | (go_at_call 53; exact Calls.quiet_of_same (magnitude_any _ _ (by omega) (by omega))) | (go_at_call 41; exact Calls.quiet_of_same ((raise_any _ _ _ (by omega) (by omega) (by omega)).mono fun _ _ ⟨x, y⟩ => ⟨by rw [x, HK.out], y⟩))))
      go_wp2_with fail
      go_ret2
      exact ⟨rfl, below_drewNn ((Below.refl _ _).alloc (Nat.le_refl _) _) _⟩
    | false =>
      have hr := e2 rfl
      subst hr
      clear e1 e2
      go_enter Tryd.func42, Tryd.ntmps42
      go_wp2_with fail
      go_quiet ((first | (go_at_call 53; exact Calls.quiet_of_same (magnitude_any _ _ (by omega) (by omega))) | (go_at_call 41; exact Calls.quiet_of_same ((raise_any _ _ _ (by omega) (by omega) (by omega)).mono fun _ _ ⟨x, y⟩ => ⟨by rw [x, HK.out], y⟩))))
      go_wp2_with fail
      go_ret2
      exact ⟨rfl, below_drewNn ((Below.refl _ _).alloc (Nat.le_refl _) _) _⟩
  · have hmb : (m != 0) = true := by rw [bne_iff_ne]; exact hm0
    clear hm0
    cases k with
    | true =>
      have hr := e1 rfl
      subst hr
      clear e1 e2
      go_enter Tryd.func42, Tryd.ntmps42
      go_wp2_with fail
      go_quiet ((first | (go_at_call 53; exact Calls.quiet_of_same (magnitude_any _ _ (by omega) (by omega))) | (go_at_call 41; exact Calls.quiet_of_same ((raise_any _ _ _ (by omega) (by omega) (by omega)).mono fun _ _ ⟨x, y⟩ => ⟨by rw [x, HK.out], y⟩))))
      go_wp2_with fail
      go_ret2
      exact ⟨rfl, below_drewNn ((Below.refl _ _).alloc (Nat.le_refl _) _) _⟩
    | false =>
      have hr := e2 rfl
      subst hr
      clear e1 e2
      go_enter Tryd.func42, Tryd.ntmps42
      go_wp2_with fail
      go_quiet ((first | (go_at_call 53; exact Calls.quiet_of_same (magnitude_any _ _ (by omega) (by omega))) | (go_at_call 41; exact Calls.quiet_of_same ((raise_any _ _ _ (by omega) (by omega) (by omega)).mono fun _ _ ⟨x, y⟩ => ⟨by rw [x, HK.out], y⟩))))
      go_wp2_with fail
      go_ret2
      exact ⟨rfl, below_drewNn ((Below.refl _ _).alloc (Nat.le_refl _) _) _⟩

set_option maxRecDepth 100000 in
set_option maxHeartbeats 400000 in
theorem nearest_any (a : Int) (w : World) (h0 : 0 ≤ a) (h1 : a ≤ 1000000000000000000) :
    Calls Tryd.prog 26 #[.int .i64 a, .int .i64 1000000000] w fun e w' => e = .returned (.tuple #[.int .i64 ((a + 500000000) / 1000000000), .bool true]) ∧ Below w.heap.size w w' := by
  go_enter Tryd.func26, Tryd.ntmps26
  go_wp2_with ((with_reducible refine wpList_storeNew (N := w.heap.size) (c' := #[.func (.func 41) #[] #[]]) ?hx rfl ?hy ?hi ?hs ?h1 ?_); (case hx => rfl); (case hy => rfl); (case hi => kernel_rfl); (case hs => rfl); (case h1 => rfl))
  refine (divide_any a _ h0 h1).mono ?_
  rintro e w1 ⟨rfl, hb⟩
  have HB := Lib.hid (((Below.refl _ _).alloc (Nat.le_refl _) (.cells #[.func (.func 41) #[] #[]] 89)).trans (hb.mono (by rw [World.size_alloc]; omega)))
  clear hb
  go_wp2_with fail
  go_ret2
  exact ⟨rfl, HB.out⟩

end Go.Proofs.YtdbkdneolcgfjaaDoor
