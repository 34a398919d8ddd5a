/-
  The contracts of the reference's small functions: Digit, Letter, skip, number.
  Plain facts for the reference's scan: what is read, by the first byte; the first mark.
  The contracts of the reference's functions Marks and mark.
  The contract of the reference's Scan.
-/
import Derived.Test.YtbmcfodhjibooaaDoorLexA
import Derived.Test.YtbmcfodhjibooaaDoorPlainA
namespace Go.Proofs.YtbmcfodhjibooaaDoor
open Go.RowKit Saw

set_option maxHeartbeats 400000 in
theorem refDigit_any (c : Int) (w : World) :
    Calls Tryd.prog 92 #[.int .u8 c] w fun e w' => e = .returned (.bool (digI c)) ∧ w = w' := by
  go_enter Tryd.func92, Tryd.ntmps92
  go_wp2
  all_goals
    go_ret
    refine ⟨ret_bool ?_, rfl⟩
    rw [Bool.eq_iff_iff]; simp [digI]; omega

set_option maxHeartbeats 400000 in
theorem refLetter_any (c : Int) (w : World) :
    Calls Tryd.prog 94 #[.int .u8 c] w fun e w' => e = .returned (.bool (partI c)) ∧ w = w' := by
  go_enter Tryd.func94, Tryd.ntmps94
  go_wp2_with (go_at_call 92; refine (refDigit_any _ _).mono ?_; rintro e w' ⟨rfl, rfl⟩)
  all_goals
    go_ret
    refine ⟨ret_bool ?_, rfl⟩
    rw [Bool.eq_iff_iff]
    simp [partI, letI', digI] at *
    try omega

set_option maxHeartbeats 400000 in
theorem refSkip_any (s : ByteArray) (n : Int) (w : World) (h0 : 0 ≤ n) (h1 : n ≤ s.size) (hs : s.size ≤ 9223372036854775807) :
    Calls Tryd.prog 91 #[.string s, .int .i64 n] w fun e w' => e = .returned (.int .i64 (n + skipN false ((bts s).drop n.toNat))) ∧ w = w' := by
  obtain ⟨k, rfl⟩ := Int.eq_ofNat_of_zero_le h0
  rw [Int.toNat_natCast]
  have hk : k ≤ s.size := by omega
  obtain ⟨m, hm⟩ : ∃ m, k + skipN false ((bts s).drop k) = m := ⟨_, rfl⟩
  have HM := Lib.hid hm
  clear h0 h1
  go_enter Tryd.func91, Tryd.ntmps91
  go_wp2
  go_loop [1, 5] (fun i rem => ∃ (j : Nat) (b : Bool), j ≤ s.size ∧ i = .int .i64 j ∧ rem = .bool b ∧ j + skipN b ((bts s).drop j) = m) (fun i _ => s.size - (intOf i).toNat)
  case atStart => exact ⟨k, false, hk, rfl, rfl, HM.out⟩
  case round =>
    obtain ⟨j, b, hj, rfl, rfl, hr⟩ := hrel
    have HR := Lib.hid hr
    clear hr
    by_cases hlt : j < s.size
    · cases b
      · go_wp2
        · exact ⟨⟨j + 1, false, by omega, by go_num, rfl, skip_in hlt HR.out (.inr ‹_›)⟩, by simp [intOf]; omega⟩
        · exact ⟨⟨j + 1, false, by omega, by go_num, rfl, skip_in hlt HR.out (.inl ‹_›)⟩, by simp [intOf]; omega⟩
        · exact ⟨⟨j + 1, true, by omega, by go_num, rfl, skip_rem hlt (skip_hash hlt HR.out ‹_›) ‹_›⟩, by simp [intOf]; omega⟩
        · go_ret
          refine ⟨ret_int ?_, rfl⟩
          have h1 := skip_out hlt HR.out ‹_› ‹_› ‹_›
          have := HM.out
          omega
      · go_wp2
        · exact ⟨⟨j + 1, false, by omega, by go_num, rfl, skip_in hlt (skip_line hlt HR.out ‹_›) (.inr ‹_›)⟩, by simp [intOf]; omega⟩
        · exact ⟨⟨j + 1, true, by omega, by go_num, rfl, skip_rem hlt HR.out ‹_›⟩, by simp [intOf]; omega⟩
    · go_wp2
      go_ret
      refine ⟨ret_int ?_, rfl⟩
      have h1 := skip_end hlt HR.out
      have := HM.out
      omega

set_option maxHeartbeats 400000 in
theorem number_any (s : ByteArray) (w : World) (hd : allDig (bts s)) (h1 : 0 < s.size) (hs : s.size ≤ 9223372036854775807) :
    Calls Tryd.prog 93 #[.string s] w fun e w' => e = .returned (.tuple #[.int .i64 (valueP (bts s)).1, .int .i64 (valueP (bts s)).2]) ∧ w = w' := by
  have h0 : (bts s).head? = some s[0] := by
    have := drop_cons s 0 h1
    rw [List.drop_zero] at this
    rw [this]; rfl
  by_cases hz : 1 < s.size ∧ s[0].toNat = 48
  · have hv : valueP (bts s) = (0, 5) := by
      rw [valueP, if_pos ⟨by rw [← size_bts]; exact hz.1, by rw [h0]; simp [hz.2]⟩]
    have HV := Lib.hid hv
    obtain ⟨hz1, hz2⟩ := hz
    have hz3 : ((s[0].toNat : Int) == 48) = true := by simp; omega
    have HD := Lib.hid hd
    clear hv h0 hd hz2
    go_enter Tryd.func93, Tryd.ntmps93
    go_wp2
    go_ret2
    exact ⟨ret_ints (by rw [HV.out]) (by rw [HV.out]), rfl⟩
  · have hz' : 1 < s.size → ((s[0].toNat : Int) == 48) = false := by intro h; simp; omega
    obtain ⟨m, hm⟩ : ∃ m, valN 0 (bts s) = m := ⟨_, rfl⟩
    have hv : valueP (bts s) = valPair m := by
      rw [valueP, if_neg (fun h => hz ⟨by rw [size_bts]; exact h.1, by have := h.2; rw [h0] at this; simpa using this⟩), hm]
    have HV := Lib.hid hv
    have HM := Lib.hid hm
    have HD := Lib.hid hd
    clear hv h0 hd hm hz
    by_cases hs1 : 1 < s.size
    case' pos => have hz3 := hz' hs1; clear hz'
    case' neg => clear hz'
    all_goals
      go_enter Tryd.func93, Tryd.ntmps93
      go_wp2
      go_loop [4, 5] (fun v i => ∃ (j : Nat) (n : Int), j ≤ s.size ∧ i = .int .i64 j ∧ v = .int .i64 n ∧ 0 ≤ n ∧ n ≤ 1099511627776 ∧ valN n ((bts s).drop j) = m) (fun _ i => s.size - (intOf i).toNat)
      case atStart => exact ⟨0, 0, by omega, rfl, rfl, by omega, by omega, HM.out⟩
      case round =>
        obtain ⟨j, n, hj, rfl, rfl, hn0, hn1, hr⟩ := hrel
        have HR := Lib.hid hr
        clear hr
        by_cases hlt : j < s.size
        · have hb := dig_at HD.out hlt
          go_wp2
          · go_ret2
            have h9 := HV.out
            rw [val_out hlt HR.out ‹_›] at h9
            exact ⟨ret_ints (by rw [h9]; rfl) (by rw [h9]; rfl), rfl⟩
          · exact ⟨⟨j + 1, _, by omega, by go_num, rfl, by omega, by omega, val_in hlt HR.out (by omega)⟩, by simp [intOf]; omega⟩
        · go_wp2
          go_ret2
          have h9 := HV.out
          rw [val_end hlt HR.out] at h9
          exact ⟨ret_ints (by rw [h9]; rfl) (by rw [h9]; rfl), rfl⟩

end Go.Proofs.YtbmcfodhjibooaaDoor

namespace Saw

theorem find_len (n : Nat) (l : List UInt8) : ∀ ms : List (List UInt8), (∀ m ∈ ms, m.length = n) →
    ms.find? (fun m => m == l.take m.length) = if l.take n ∈ ms then some (l.take n) else none
  | [], _ => by simp
  | m :: ms, h => by
    have hm : m.length = n := h m (by simp)
    rw [List.find?_cons]
    by_cases he : m = l.take n
    · have : (m == l.take m.length) = true := by rw [hm]; simpa using he
      rw [this, if_pos (by rw [← he]; simp), ← he]
    · have : (m == l.take m.length) = false := by rw [hm]; simpa using he
      rw [this, find_len n l ms (fun m hm => h m (by simp [hm]))]
      by_cases hin : l.take n ∈ ms
      · rw [if_pos hin, if_pos (by simp [hin])]
      · rw [if_neg hin, if_neg]
        simp only [List.mem_cons, not_or]
        exact ⟨fun h => he h.symm, hin⟩

def marks2 : List (List UInt8) := marks.take 4
def marks1 : List (List UInt8) := marks.drop 4
theorem marks_split : marks = marks2 ++ marks1 := (List.take_append_drop 4 marks).symm
theorem marks2_len : ∀ m ∈ marks2, m.length = 2 := by decide
theorem marks1_len : ∀ m ∈ marks1, m.length = 1 := by decide

theorem markP_eq (l : List UInt8) (hl : l ≠ []) :
    markP l = if 2 ≤ l.length ∧ isMarkP (l.take 2) = true then l.take 2 else if isMarkP (l.take 1) = true then l.take 1 else [] := by
  have hl1 : 1 ≤ l.length := by
    cases l with
    | nil => exact absurd rfl hl
    | cons c r => simp
  have e2 : (2 ≤ l.length ∧ isMarkP (l.take 2) = true) ↔ l.take 2 ∈ marks2 := by
    simp only [isMarkP, List.contains_iff_mem, marks_split, List.mem_append]
    constructor
    · rintro ⟨h, h1 | h1⟩
      · exact h1
      · have := marks1_len _ h1
        rw [List.length_take] at this
        omega
    · intro h
      refine ⟨?_, .inl h⟩
      have := marks2_len _ h
      rw [List.length_take] at this
      omega
  have e1 : (isMarkP (l.take 1) = true) ↔ l.take 1 ∈ marks1 := by
    simp only [isMarkP, List.contains_iff_mem, marks_split, List.mem_append]
    constructor
    · rintro (h1 | h1)
      · have := marks2_len _ h1
        rw [List.length_take] at this
        omega
      · exact h1
    · exact .inr
  rw [markP, marks_split, List.find?_append, find_len 2 l _ marks2_len, find_len 1 l _ marks1_len]
  by_cases h2 : l.take 2 ∈ marks2
  · rw [if_pos h2, if_pos (e2.2 h2)]
    rfl
  · rw [if_neg h2, if_neg (fun h => h2 (e2.1 h))]
    by_cases h1 : l.take 1 ∈ marks1
    · rw [if_pos h1, if_pos (e1.2 h1)]
      rfl
    · rw [if_neg h1, if_neg (fun h => h1 (e1.1 h))]
      rfl

theorem dig_not_let {c : Int} (h : digI c = true) : letI' c = false := by
  simp [digI, letI'] at *
  omega
theorem let_of {c : Int} (h : partI c = true) (hd : digI c = false) : letI' c = true := by
  simpa [partI, hd] using h
theorem not_let {c : Int} (h : partI c = false) : letI' c = false ∧ digI c = false := by
  simpa [partI] using h

theorem readP_letter (c : UInt8) (r : List UInt8) (pos : Int) (hc : letI' c.toNat = true) :
    readP (c :: r) pos = if 16 < spanN partI (c :: r) then (Lx.zero, 6) else (⟨1, (c :: r).take (spanN partI (c :: r)), 0, pos⟩, 0) := by
  rw [readP]; simp only [hc, if_true]
theorem readP_digit (c : UInt8) (r : List UInt8) (pos : Int) (hd : digI c.toNat = true) :
    readP (c :: r) pos = if (valueP ((c :: r).take (spanN digI (c :: r)))).2 = 0 then (⟨2, (c :: r).take (spanN digI (c :: r)), (valueP ((c :: r).take (spanN digI (c :: r)))).1, pos⟩, 0) else (Lx.zero, (valueP ((c :: r).take (spanN digI (c :: r)))).2) := by
  rw [readP]; simp only [dig_not_let hd, hd, if_true, Bool.false_eq_true, if_false]
theorem readP_other (c : UInt8) (r : List UInt8) (pos : Int) (hp : partI c.toNat = false) :
    readP (c :: r) pos = if markP (c :: r) = [] then (Lx.zero, 5) else (⟨3, markP (c :: r), 0, pos⟩, 0) := by
  obtain ⟨h1, h2⟩ := not_let hp
  rw [readP]; simp only [h1, h2, Bool.false_eq_true, if_false]
  rw [markP_eq _ (by simp)]
  by_cases h3 : 2 ≤ (c :: r).length ∧ isMarkP ((c :: r).take 2) = true
  · rw [if_pos h3, if_pos h3, if_neg]
    intro h
    have := congrArg List.length h
    rw [List.length_take] at this
    simp at this
  · rw [if_neg h3, if_neg h3]
    by_cases h4 : isMarkP ((c :: r).take 1) = true
    · rw [if_pos h4, if_pos h4, if_neg (by simp)]
    · rw [if_neg h4, if_neg h4, if_pos rfl]

end Saw

namespace Go.Proofs.YtbmcfodhjibooaaDoor
open Go.RowKit Saw

/-- The slice value v reads as a list of strings. -/
def RdStr (w : World) (v : Value) (l : List (List UInt8)) : Prop := Rd w w.heap.size 1 v l.length (l.map fun x => .string (str x))

theorem RdStr.form {w : World} {v : Value} {l : List (List UInt8)} (h : RdStr w v l) : ∃ A c, v = .slice A l.length c ∧ l.length ≤ c ∧ l.length ≤ maxLen := by
  obtain ⟨_, h2, A, c, rfl, hc, _⟩ := h
  exact ⟨A, c, rfl, hc, h2⟩
theorem RdStr.at_ {w : World} {A : Option Addr} {n c : Nat} {l : List (List UInt8)} (h : RdStr w (.slice A n c) l) {i : Nat} {x : List UInt8} (hx : l[i]? = some x) :
    ∃ b off, A = some ⟨b, off, none⟩ ∧ b < w.heap.size ∧ w.cell? ⟨b, off + i, none⟩ = some (.string (str x)) := by
  obtain ⟨_, _, A', c', he, _, h3⟩ := h
  injection he with h1 h2 h4
  subst h1
  have hi : i < l.length := (List.getElem?_eq_some_iff.1 hx).1
  obtain ⟨b, off, rfl, hb, hcell⟩ := h3 (by omega)
  exact ⟨b, off, rfl, hb, hcell _ _ (by rw [List.getElem?_map, hx]; rfl)⟩

set_option maxHeartbeats 400000 in
theorem refMarks_any (w : World) : Calls Tryd.prog 108 #[] w fun e w' => ∃ A c, e = .returned (.slice A 19 c) ∧ RdStr w' (.slice A 19 c) marks ∧ Below w.heap.size w w' := by
  go_enter Tryd.func108, Tryd.ntmps108
  go_wp2
  go_ret
  refine ⟨some ⟨w.heap.size, 0, none⟩, 19, rfl, ?_, (Below.refl _ _).alloc (Nat.le_refl _) _⟩
  refine ⟨rfl, by simp [marks, maxLen], _, _, rfl, Nat.le_refl _, fun _ => ⟨w.heap.size, 0, rfl, by simp, fun j u hu => ?_⟩⟩
  rw [World.cell?_alloc_at _ _ _ _ rfl, ← hu, Nat.zero_add, List.getElem?_toArray]
  rfl

theorem marks_len : marks.length = 19 := rfl

theorem mark_step {l x : List UInt8} {k : Nat} (h : (marks.take k).find? (fun m => m == l.take m.length) = none) (hx : marks[k]? = some x) (hne : ¬ x = l.take x.length) :
    (marks.take (k + 1)).find? (fun m => m == l.take m.length) = none := by
  rw [List.take_add_one, hx, List.find?_append, h]
  simpa using hne
theorem mark_hit {l x : List UInt8} {k : Nat} (h : (marks.take k).find? (fun m => m == l.take m.length) = none) (hx : marks[k]? = some x) (he : x = l.take x.length) : markP l = x := by
  have h1 : marks = marks.take k ++ (x :: marks.drop (k + 1)) := by
    have hk : k < marks.length := (List.getElem?_eq_some_iff.1 hx).1
    conv => lhs; rw [← List.take_append_drop k marks, List.drop_eq_getElem_cons hk]
    rw [List.getElem?_eq_getElem hk] at hx
    rw [Option.some.inj hx]
  rw [markP, h1, List.find?_append, h, List.find?_cons_of_pos (by simpa using he)]
  rfl

set_option maxHeartbeats 400000 in
theorem refMark_any (s : ByteArray) (w : World) (_hs : s.size ≤ 9223372036854775807) :
    Calls Tryd.prog 95 #[.string s] w fun e w' => e = .returned (.string (str (markP (bts s)))) ∧ Below w.heap.size w w' := by
  go_enter Tryd.func95, Tryd.ntmps95
  go_wp2_with fail
  refine (refMarks_any _).mono ?_
  rintro e w1 ⟨A, c, rfl, hrd, hb⟩
  obtain ⟨b, off, rfl, _, _⟩ := hrd.at_ (i := 0) (x := [60, 61]) rfl
  have HRD := Lib.hid hrd
  clear hrd
  go_wp2_with fail
  go_loopw [4] (fun i wr => ∃ k m : Nat, k ≤ 19 ∧ i = .int .i64 k ∧ wr = w1.drewN m ∧ (marks.take k).find? (fun m => m == (bts s).take m.length) = none) (fun i _ => 19 - (intOf i).toNat)
  case atStart => exact ⟨0, 0, by omega, rfl, rfl, by simp⟩
  case round =>
    obtain ⟨k, m, hk, rfl, rfl, hr⟩ := hrel
    have HR := Lib.hid hr
    clear hr
    by_cases hlt : k < 19
    · obtain ⟨x, hx⟩ : ∃ x, marks[k]? = some x := ⟨_, List.getElem?_eq_getElem (by rw [marks_len]; exact hlt)⟩
      obtain ⟨b', off', he, _, hcell⟩ := HRD.out.at_ hx
      injection he with he
      injection he with h1 h2
      subst h1 h2
      have HX := Lib.hid hx
      have hsz : (str x).size = x.length := size_str x
      have hxl : x.length ≤ 2 := by
        have : ∀ x ∈ marks, x.length ≤ 2 := by decide
        exact this x (List.mem_of_getElem? hx)
      obtain ⟨t, ht⟩ : ∃ t, str x = t := ⟨_, rfl⟩
      rw [ht] at hcell hsz
      have HT := Lib.hid ht
      have hts : t.size ≤ 2 := by omega
      have HSZ := Lib.hid hsz
      clear hx ht hsz
      by_cases hin : t.size ≤ s.size
      · obtain ⟨q, hq⟩ : ∃ q, ((s.extract 0 t.size).toList == t.toList) = q := ⟨_, rfl⟩
        have hq' : (x == (bts s).take x.length) = q := by
          rw [← hq, toList_bts, toList_bts, ← HT.out, bts_str, extract_str, bts_str, size_str, List.drop_zero, Nat.sub_zero]
          rw [Bool.eq_iff_iff, beq_iff_eq, beq_iff_eq]; exact eq_comm
        have HQ := Lib.hid hq'
        clear hq'
        have hge : decide ((t.size : Int) ≤ (s.size : Int)) = true := by simp; omega
        cases q
        · go_wp2_with fail
          go_quiet (fail)
          rw [World.drewN_drewN]
          go_wp2_with fail
          exact ⟨⟨k + 1, m + nq, by omega, by go_num, rfl, mark_step HR.out HX.out (by simpa using HQ.out)⟩, by simp [intOf]; omega⟩
        · go_wp2_with fail
          go_quiet (fail)
          rw [World.drewN_drewN]
          go_wp2_with fail
          go_ret
          refine ⟨?_, below_drewN hb (m + nq)⟩
          rw [mark_hit HR.out HX.out (by simpa using HQ.out), HT.out]
          rfl
      · have hge : decide (t.size ≤ s.size) = false := by simp; omega
        have hge' : decide ((t.size : Int) ≤ (s.size : Int)) = false := by simp; omega
        go_wp2_with fail
        go_quiet (fail)
        rw [World.drewN_drewN]
        go_wp2_with fail
        refine ⟨⟨k + 1, m + nq, by omega, by go_num, rfl, mark_step HR.out HX.out ?_⟩, by simp [intOf]; omega⟩
        intro he
        have h1 := congrArg List.length he
        rw [List.length_take] at h1
        have h2 := HSZ.out
        have h3 := size_bts s
        omega
    · go_wp2_with fail
      go_ret
      refine ⟨?_, hb.trans (below_drewN (Below.refl _ _) m)⟩
      have h := HR.out
      rw [List.take_of_length_le (by rw [marks_len]; omega)] at h
      rw [markP, h]
      rfl

end Go.Proofs.YtbmcfodhjibooaaDoor

namespace Go.Proofs.YtbmcfodhjibooaaDoor
open Go.RowKit Saw

set_option maxHeartbeats 400000 in
theorem refScan_long (s : ByteArray) (w : World) (hl : 8000 < s.size) (hs : s.size ≤ 9223372036854775807) :
    Calls Tryd.prog 67 #[.string s] w (ScanPost (bts s) w) := by
  have hv : scanP (bts s) = ([], 4, 0) := by rw [scanP, if_pos (by rw [← size_bts]; exact hl)]
  have HV := Lib.hid hv
  clear hv
  go_enter Tryd.func67, Tryd.ntmps67
  go_wp2_with fail
  go_ret3
  refine ⟨.slice none 0 0, ?_, ?_, Below.refl _ _⟩
  · rw [HV.out]
    rfl
  · rw [HV.out]
    exact World.ownsRow_nil _ _ _ _

theorem size_setCell (w : World) (a : Addr) (u : Value) : (w.setCell a u).heap.size = w.heap.size := by simp [World.setCell]

theorem scan_step {s : ByteArray} {k m j : Nat} {xs : List Lx} {R : List Lx × Int × Int} {x : Lx} (hlt : k < s.size) (hx : readP ((bts s).drop k) k = (x, 0)) (hm : x.text.length = m) (hj : skipN false ((bts s).drop (k + m)) = j)
    (h : lxAhead xs (scanR ((bts s).drop k) k) = R) : lxAhead (xs ++ [x]) (scanR ((bts s).drop (k + m + j)) ((k + m + j : Nat) : Int)) = R := by
  rw [scanR_ok _ _ (by rw [drop_cons s k hlt]; simp) (by rw [hx]) m j (by rw [hx]; exact hm) (by rw [List.drop_drop]; exact hj), hx, lxAhead_lxAhead, List.drop_drop] at h
  rw [← h]
  congr 2
  · congr 1; omega
  · omega
theorem scan_stop {s : ByteArray} {k : Nat} {xs : List Lx} {R : List Lx × Int × Int} {x : Lx} {er : Int} (hlt : k < s.size) (hx : readP ((bts s).drop k) k = (x, er)) (he : er ≠ 0) (h : lxAhead xs (scanR ((bts s).drop k) k) = R) :
    R = ([], er, (k : Int)) := by
  rw [scanR_err _ _ (by rw [drop_cons s k hlt]; simp) (by rw [hx]; exact he), hx] at h
  rw [← h, lxAhead, if_neg he]
theorem skip_fits {s : ByteArray} {k m j : Nat} (hm : k + m ≤ s.size) (hj : skipN false ((bts s).drop (k + m)) = j) : k + m + j ≤ s.size := by
  have h := skipN_le ((bts s).drop (k + m)) false
  rw [hj, List.length_drop, ← size_bts] at h
  omega
theorem below_round {w wr W w2 : World} {row : Option Nat} (h : Below w.heap.size w wr) (h1 : Below wr.heap.size wr W) (hg : W.grownBy w2 row) (hr : ∀ b, row = some b → w.heap.size ≤ b) : Below w.heap.size w w2 :=
  (h.trans (h1.mono h.size)).grown hg (Nat.le_trans h.size h1.size) hr

set_option maxRecDepth 100000 in
set_option maxHeartbeats 1000000 in
theorem refScan_short (s : ByteArray) (w : World) (hl : s.size ≤ 8000) :
    Calls Tryd.prog 67 #[.string s] w (ScanPost (bts s) w) := by
  obtain ⟨R, hR⟩ : ∃ R, scanP (bts s) = R := ⟨_, rfl⟩
  have hsk := skipN_le (bts s) false
  obtain ⟨k0, hk0⟩ : ∃ k0, skipN false (bts s) = k0 := ⟨_, rfl⟩
  rw [hk0, ← size_bts] at hsk
  have hR' : lxAhead [] (scanR ((bts s).drop k0) k0) = R := by
    rw [lxAhead_nil _ (scanR_zero _ _), ← hR, scanP, if_neg (by rw [← size_bts]; omega), hk0]
  have HR := Lib.hid hR
  have HR' := Lib.hid hR'
  have HK := Lib.hid hk0
  clear hR hR' hk0
  go_enter Tryd.func67, Tryd.ntmps67
  go_wp2_with fail
  refine (refSkip_any _ _ _ (by omega) (by omega) (by omega)).mono ?_
  rintro e w' ⟨he, rfl⟩
  rw [Int.toNat_zero, List.drop_zero, HK.out, Int.zero_add] at he
  subst he
  go_wp2_with fail
  go_loopw [5, 6] (fun v i wr => ScanRel s w R v i wr) (fun _ i _ => s.size - (intOf i).toNat)
  case atStart => exact ⟨k0, [], hsk, rfl, by simp, World.ownsRow_nil _ _ _ _, Below.refl _ _, HR'.out⟩
  case round =>
    obtain ⟨k, xs, hk, rfl, hxk, hown, hbw, hrel⟩ := hrel
    have HREL := Lib.hid hrel
    have HOWN := Lib.hid hown
    clear hrel hown
    by_cases hlt : k < s.size
    · have hb : s[k].toNat < 256 := s[k].toNat_lt
      cases hd : digI (s[k].toNat)
      · cases hp : partI (s[k].toNat)
        · obtain ⟨mk, hmk⟩ : ∃ mk, markP ((bts s).drop k) = mk := ⟨_, rfl⟩
          have hrd : readP ((bts s).drop k) k = if mk = [] then (Lx.zero, 5) else (⟨3, mk, 0, k⟩, 0) := by
            rw [drop_cons s k hlt, readP_other _ _ _ hp, ← drop_cons s k hlt, hmk]
          have hex : bts (s.extract k s.size) = (bts s).drop k := by
            rw [extract_str, bts_str, List.take_of_length_le (by rw [List.length_drop, ← size_bts]; omega)]
          have hexs : (s.extract k s.size).size ≤ 9223372036854775807 := by
            rw [size_bts, hex, List.length_drop, ← size_bts]; omega
          have HRD := Lib.hid hrd
          have HMK := Lib.hid hmk
          have HEX := Lib.hid hex
          clear hrd hmk hex
          go_wp2_with (first | (go_at_call 92; refine (refDigit_any _ _).mono ?_; rintro e w' ⟨rfl, rfl⟩) | (go_at_call 94; refine (refLetter_any _ _).mono ?_; rintro e w' ⟨rfl, rfl⟩))
          refine (refMark_any _ _ hexs).mono ?_
          rintro e w1 ⟨he, hbw1⟩
          rw [HEX.out, HMK.out] at he
          simp only [World.size_alloc] at hbw1
          have HB1 := Lib.hid hbw1
          clear hbw1 hexs
          by_cases hmn : mk = []
          · subst hmn
            have he' : e = .returned (.string ⟨#[]⟩) := he
            subst he'
            clear he
            go_wp2_with fail
            have HX : Hid (readP ((bts s).drop k) k = (Lx.zero, 5)) := HRD.out.trans (by simp)
            have HBW1 : Hid (Below wr.heap.size wr w1) := below_box HB1.out
            go_ret3
            have hRR := scan_stop hlt HX.out (by decide) HREL.out
            refine ⟨.slice none 0 0, ?_, ?_, ?_⟩
            · rw [HR.out, hRR]
              rfl
            · rw [HR.out, hRR]
              exact World.ownsRow_nil _ _ _ _
            · exact hbw.trans (HBW1.out.mono hbw.size)
          · have HX : Hid (readP ((bts s).drop k) k = (⟨3, mk, 0, k⟩, 0)) := by rw [HRD.out, if_neg hmn]; rfl
            obtain ⟨hmp, hmt⟩ : 0 < mk.length ∧ mk = ((bts s).drop k).take mk.length := by
              have h := readP_text ((bts s).drop k) k (by rw [HX.out])
              rw [HX.out] at h
              exact ⟨h.1, h.2.1⟩
            have hfitm : k + mk.length ≤ s.size := by
              have h1 : mk.length ≤ ((bts s).drop k).length := by rw [hmt]; exact List.length_take_le' _ _
              rw [List.length_drop, ← size_bts] at h1
              omega
            obtain ⟨t, ht⟩ : ∃ t, str mk = t := ⟨_, rfl⟩
            rw [ht] at he
            have htz : t.size = mk.length := by rw [← ht, size_str]
            have hte : t.toList.isEmpty = false := by
              rw [toList_bts, ← ht, bts_str]
              cases mk with
              | nil => exact absurd rfl hmn
              | cons c r => rfl
            have hte2 : ¬ t.toList = [] := by intro h; rw [h] at hte; cases hte
            have hxt : s.extract k (k + t.size) = t := by rw [htz, take_at, ← hmt, ht]
            obtain ⟨m, hm⟩ : ∃ m, mk.length = m := ⟨_, rfl⟩
            rw [hm] at htz hfitm hmp
            have htm1 : t.size ≤ m := by omega
            have htm2 : m ≤ t.size := by omega
            have HT := Lib.hid ht
            have HXT := Lib.hid hxt
            have HTL := Lib.hid hm
            have HMT := Lib.hid hmt
            have HMN := Lib.hid hmn
            clear ht hm hmt htz HRD hmn hxt
            subst he
            obtain ⟨hcl, hfr⟩ := bcell HB1.out
            have hc0 := hcl wr.heap.size
            have hf0 := hfr wr.heap.size
            have hw1 : wr.heap.size < w1.heap.size := by have := HB1.out.size; rw [World.size_alloc] at this; omega
            clear hcl hfr
            have HBW1 : Hid (Below wr.heap.size wr ((w1.setCell ⟨wr.heap.size, 0, none⟩ (.int .i64 3)).setCell ⟨wr.heap.size, 1, none⟩ (.string (s.extract k (k + t.size))))) := ((below_box HB1.out).setCell (Nat.le_refl _) _).setCell (Nat.le_refl _) _
            have HYC : Hid ([.int .i64 3, .string (s.extract k (k + t.size)), .int .i64 0, .int .i64 k] = lxCells ⟨3, mk, 0, k⟩) := by rw [HXT.out, ← HT.out]; rfl
            have hown1 : OwnsLx ((w1.setCell ⟨wr.heap.size, 0, none⟩ (.int .i64 3)).setCell ⟨wr.heap.size, 1, none⟩ (.string (s.extract k (k + t.size)))) w.heap.size u5 xs := ownsRow_below HOWN.out HBW1.out
            have HOWN1 := Lib.hid hown1
            clear hown1
            go_wp2_with (at_builtin; refine append_lx ((w1.setCell ⟨wr.heap.size, 0, none⟩ (.int .i64 3)).setCell ⟨wr.heap.size, 1, none⟩ (.string (s.extract k (k + t.size)))) rfl (.tmp 96) (.tmp 98) rfl w.heap.size u5 xs rfl HOWN1.out (by omega) (Nat.le_trans hbw.size HBW1.out.size) ⟨3, mk, 0, k⟩ 3 (s.extract k (k + t.size)) 0 k (by rw [size_setCell, size_setCell]; rfl) HYC.out ?_; intro v2 w2 hown2 hg2; have HOWN2 := Lib.hid hown2; have HG2 := Lib.hid hg2; clear hown2 hg2)
            refine (refSkip_any _ _ _ (by omega) (by omega) (by omega)).mono ?_
            rintro e w3 ⟨he, rfl⟩
            obtain ⟨i, hi⟩ : ∃ i, skipN false ((bts s).drop (k + m)) = i := ⟨_, rfl⟩
            have hfit := skip_fits (by omega) hi
            rw [show ((k : Int) + (t.size : Int)).toNat = k + m by omega, hi, show ((k : Int) + (t.size : Int)) + (i : Int) = ((k + m + i : Nat) : Int) by omega] at he
            subst he
            have HREL3 := Lib.hid (scan_step hlt HX.out HTL.out hi HREL.out)
            have HBW2 := Lib.hid (below_round hbw HBW1.out HG2.out (fun b hb => (HOWN.out.lt b hb).1))
            clear hi
            go_wp2_with fail
            exact ⟨⟨k + m + i, xs ++ [⟨3, mk, 0, k⟩], by omega, rfl, by simp; omega, HOWN2.out, HBW2.out, HREL3.out⟩, by simp [intOf]; omega⟩
        · go_wp2_with (first | (go_at_call 92; refine (refDigit_any _ _).mono ?_; rintro e w' ⟨rfl, rfl⟩) | (go_at_call 94; refine (refLetter_any _ _).mono ?_; rintro e w' ⟨rfl, rfl⟩))
          obtain ⟨m, hm⟩ : ∃ m, spanN partI ((bts s).drop k) = m := ⟨_, rfl⟩
          have hmp : 0 < m := by rw [← hm, drop_cons s k hlt, spanN, if_pos (by assumption)]; omega
          have hml := spanN_le partI ((bts s).drop k)
          rw [hm, List.length_drop, ← size_bts] at hml
          have hmk : k + spanN partI ((bts s).drop k) = k + m := by rw [hm]
          have HMK := Lib.hid hmk
          have HM := Lib.hid hm
          clear hm hmk
          go_loop [8] (fun i => ∃ j : Nat, k ≤ j ∧ j ≤ s.size ∧ i = .int .i64 j ∧ j + spanN partI ((bts s).drop j) = k + m) (fun i => s.size - (intOf i).toNat)
          case atStart => exact ⟨k, Nat.le_refl _, by omega, rfl, HMK.out⟩
          case round =>
            obtain ⟨j, hkj, hj, rfl, hr⟩ := hrel
            have HR2 := Lib.hid hr
            clear hr
            obtain ⟨z, hz⟩ : ∃ z : Bool, (decide (j < s.size) && partI (((bts s).drop j).head?.getD 0).toNat) = z := ⟨_, rfl⟩
            have HZ := Lib.hid hz
            clear hz
            cases z
            case true =>
              have hz2 := HZ.out
              simp only [Bool.and_eq_true, decide_eq_true_eq] at hz2
              obtain ⟨hlt2, hp2⟩ := hz2
              rw [drop_cons s j hlt2, List.head?_cons, Option.getD_some] at hp2
              have hb2 : s[j].toNat < 256 := s[j].toNat_lt
              go_wp2_with (go_at_call 94; refine (refLetter_any _ _).mono ?_; rintro e w' ⟨rfl, rfl⟩)
              exact ⟨⟨j + 1, by omega, by omega, by go_num, span_in hlt2 HR2.out hp2⟩, by simp [intOf]; omega⟩
            case false =>
              have hjm : j = k + m := by
                have hz2 := HZ.out
                by_cases hlt2 : j < s.size
                · rw [drop_cons s j hlt2, List.head?_cons, Option.getD_some] at hz2
                  exact span_out hlt2 HR2.out (by simpa [hlt2] using hz2)
                · exact span_end hlt2 HR2.out
              have hjm1 : j ≤ k + m := by omega
              have hjm2 : k + m ≤ j := by omega
              have HJM := Lib.hid hjm
              have hst : s.extract k j = str (((bts s).drop k).take m) := by rw [hjm]; exact take_at s k m
              obtain ⟨t, ht⟩ : ∃ t, s.extract k j = t := ⟨_, rfl⟩
              have htt : bts t = ((bts s).drop k).take m := by rw [← ht, hst, bts_str]
              have HTT := Lib.hid htt
              have HSTR := Lib.hid (show t = str (((bts s).drop k).take m) by rw [← ht, hst])
              have HTL := Lib.hid (show (((bts s).drop k).take m).length = m by rw [List.length_take, List.length_drop, ← size_bts]; omega)
              clear hjm HR2 HMK hst htt
              have hout : j < s.size → partI (s[j]?.getD 0).toNat = false := by
                intro hlt2
                have hz2 := HZ.out
                rw [drop_cons s j hlt2, List.head?_cons, Option.getD_some] at hz2
                rw [ByteArray.getElem?_lt' s j hlt2, Option.getD_some]
                simpa [hlt2] using hz2
              clear HZ
              have hrd : readP ((bts s).drop k) k = if 16 < m then (Lx.zero, 6) else ((⟨1, ((bts s).drop k).take m, 0, k⟩ : Lx), 0) := by
                rw [drop_cons s k hlt, readP_letter _ _ _ (let_of hp hd), ← drop_cons s k hlt, HM.out]
              have HRD := Lib.hid hrd
              clear hrd
              by_cases hlt2 : j < s.size
              case' pos =>
                have hp2 := hout hlt2
                rw [ByteArray.getElem?_lt' s j hlt2, Option.getD_some] at hp2
                have hb2 : s[j].toNat < 256 := s[j].toNat_lt
              all_goals
                clear hout
                by_cases h16 : 16 < m
                · have h16' : (k : Int) + 16 < j := by omega
                  go_wp2_with (go_at_call 94; refine (refLetter_any _ _).mono ?_; rintro e w' ⟨rfl, rfl⟩)
                  have HX : Hid (readP ((bts s).drop k) k = (Lx.zero, 6)) := by rw [HRD.out, if_pos h16]; rfl
                  have HBW1 : Hid (Below wr.heap.size wr (wr.alloc (.cells #[.int .i64 0, .string ⟨#[]⟩, .int .i64 0, .int .i64 k] 109))) := (Below.refl _ _).alloc (Nat.le_refl _) _
                  go_ret3
                  have hRR := scan_stop hlt HX.out (by decide) HREL.out
                  refine ⟨.slice none 0 0, ?_, ?_, ?_⟩
                  · rw [HR.out, hRR]
                    rfl
                  · rw [HR.out, hRR]
                    exact World.ownsRow_nil _ _ _ _
                  · exact hbw.trans (HBW1.out.mono hbw.size)

                · have h16' : (j : Int) ≤ (k : Int) + 16 := by omega
                  have HX : Hid (readP ((bts s).drop k) k = ((⟨1, ((bts s).drop k).take m, 0, k⟩ : Lx), 0)) := by rw [HRD.out, if_neg h16]; rfl
                  have HBW1 : Hid (Below wr.heap.size wr (wr.alloc (.cells #[.int .i64 1, .string t, .int .i64 0, .int .i64 k] 109))) := (Below.refl _ _).alloc (Nat.le_refl _) _
                  have HYC : Hid ([.int .i64 1, .string t, .int .i64 0, .int .i64 k] = lxCells (⟨1, ((bts s).drop k).take m, 0, k⟩ : Lx)) := by rw [HSTR.out]; rfl
                  clear HRD
                  have hown1 : OwnsLx (wr.alloc (.cells #[.int .i64 1, .string t, .int .i64 0, .int .i64 k] 109)) w.heap.size u5 xs := ownsRow_below HOWN.out HBW1.out
                  have HOWN1 := Lib.hid hown1
                  clear hown1
                  go_wp2_with (first | (go_at_call 94; refine (refLetter_any _ _).mono ?_; rintro e w' ⟨rfl, rfl⟩) | (at_builtin; refine append_lx (wr.alloc (.cells #[.int .i64 1, .string t, .int .i64 0, .int .i64 k] 109)) rfl (.tmp 96) (.tmp 98) rfl w.heap.size u5 xs rfl HOWN1.out (by omega) (Nat.le_trans hbw.size HBW1.out.size) (⟨1, ((bts s).drop k).take m, 0, k⟩ : Lx) 1 t 0 k (by rw [World.size_alloc]; rfl) HYC.out ?_; intro v2 w2 hown2 hg2; have HOWN2 := Lib.hid hown2; have HG2 := Lib.hid hg2; clear hown2 hg2))
                  refine (refSkip_any _ _ _ (by omega) (by omega) (by omega)).mono ?_
                  rintro e w3 ⟨he, rfl⟩
                  obtain ⟨i, hi⟩ : ∃ i, skipN false ((bts s).drop (k + m)) = i := ⟨_, rfl⟩
                  have hfit := skip_fits (by omega) hi
                  rw [show ((j : Int)).toNat = k + m by omega, hi, show ((j : Int)) + (i : Int) = ((k + m + i : Nat) : Int) by omega] at he
                  subst he
                  have HREL3 := Lib.hid (scan_step hlt HX.out HTL.out hi HREL.out)
                  have HBW2 := Lib.hid (below_round hbw HBW1.out HG2.out (fun b hb => (HOWN.out.lt b hb).1))
                  clear hi
                  go_wp2_with fail
                  exact ⟨⟨k + m + i, xs ++ [(⟨1, ((bts s).drop k).take m, 0, k⟩ : Lx)], by omega, rfl, by simp; omega, HOWN2.out, HBW2.out, HREL3.out⟩, by simp [intOf]; omega⟩


      · go_wp2_with (go_at_call 92; refine (refDigit_any _ _).mono ?_; rintro e w' ⟨rfl, rfl⟩)
        obtain ⟨m, hm⟩ : ∃ m, spanN digI ((bts s).drop k) = m := ⟨_, rfl⟩
        have hmp : 0 < m := by rw [← hm, drop_cons s k hlt, spanN, if_pos (by assumption)]; omega
        have hml := spanN_le digI ((bts s).drop k)
        rw [hm, List.length_drop, ← size_bts] at hml
        have hmk : k + spanN digI ((bts s).drop k) = k + m := by rw [hm]
        have HMK := Lib.hid hmk
        have HM := Lib.hid hm
        clear hm hmk
        go_loop [8] (fun i => ∃ j : Nat, k ≤ j ∧ j ≤ s.size ∧ i = .int .i64 j ∧ j + spanN digI ((bts s).drop j) = k + m) (fun i => s.size - (intOf i).toNat)
        case atStart => exact ⟨k, Nat.le_refl _, by omega, rfl, HMK.out⟩
        case round =>
          obtain ⟨j, hkj, hj, rfl, hr⟩ := hrel
          have HR2 := Lib.hid hr
          clear hr
          obtain ⟨z, hz⟩ : ∃ z : Bool, (decide (j < s.size) && digI (((bts s).drop j).head?.getD 0).toNat) = z := ⟨_, rfl⟩
          have HZ := Lib.hid hz
          clear hz
          cases z
          case true =>
            have hz2 := HZ.out
            simp only [Bool.and_eq_true, decide_eq_true_eq] at hz2
            obtain ⟨hlt2, hp2⟩ := hz2
            rw [drop_cons s j hlt2, List.head?_cons, Option.getD_some] at hp2
            have hb2 : s[j].toNat < 256 := s[j].toNat_lt
            go_wp2_with (go_at_call 92; refine (refDigit_any _ _).mono ?_; rintro e w' ⟨rfl, rfl⟩)
            exact ⟨⟨j + 1, by omega, by omega, by go_num, span_in hlt2 HR2.out hp2⟩, by simp [intOf]; omega⟩
          case false =>
            have hjm : j = k + m := by
              have hz2 := HZ.out
              by_cases hlt2 : j < s.size
              · rw [drop_cons s j hlt2, List.head?_cons, Option.getD_some] at hz2
                exact span_out hlt2 HR2.out (by simpa [hlt2] using hz2)
              · exact span_end hlt2 HR2.out
            have hjm1 : j ≤ k + m := by omega
            have hjm2 : k + m ≤ j := by omega
            have HJM := Lib.hid hjm
            have hst : s.extract k j = str (((bts s).drop k).take m) := by rw [hjm]; exact take_at s k m
            obtain ⟨t, ht⟩ : ∃ t, s.extract k j = t := ⟨_, rfl⟩
            have htt : bts t = ((bts s).drop k).take m := by rw [← ht, hst, bts_str]
            have HTT := Lib.hid htt
            have HSTR := Lib.hid (show t = str (((bts s).drop k).take m) by rw [← ht, hst])
            have HTL := Lib.hid (show (((bts s).drop k).take m).length = m by rw [List.length_take, List.length_drop, ← size_bts]; omega)
            clear hjm HR2 HMK hst htt
            have hout : j < s.size → digI (s[j]?.getD 0).toNat = false := by
              intro hlt2
              have hz2 := HZ.out
              rw [drop_cons s j hlt2, List.head?_cons, Option.getD_some] at hz2
              rw [ByteArray.getElem?_lt' s j hlt2, Option.getD_some]
              simpa [hlt2] using hz2
            clear HZ
            obtain ⟨v, er, hver⟩ : ∃ v er, valueP (bts t) = (v, er) := ⟨_, _, rfl⟩
            have hrd : readP ((bts s).drop k) k = if er = 0 then ((⟨2, ((bts s).drop k).take m, v, k⟩ : Lx), 0) else (Lx.zero, er) := by
              rw [drop_cons s k hlt, readP_digit _ _ _ hd, ← drop_cons s k hlt, HM.out, ← HTT.out, hver]
            have hall : allDig (bts t) := by
              have h := span_dig_all ((bts s).drop k)
              rw [HM.out, ← HTT.out] at h
              exact h
            have htz : t.size = m := by rw [size_bts, HTT.out, HTL.out]
            have htz1 : 0 < t.size := by omega
            have htz2 : t.size ≤ 9223372036854775807 := by omega
            have HVER := Lib.hid hver
            have HALL := Lib.hid hall
            have HRD := Lib.hid hrd
            clear hrd hver hall htz
            by_cases hlt2 : j < s.size
            case' pos =>
              have hp2 := hout hlt2
              rw [ByteArray.getElem?_lt' s j hlt2, Option.getD_some] at hp2
              have hb2 : s[j].toNat < 256 := s[j].toNat_lt
            all_goals
              clear hout
              go_wp2_with (go_at_call 92; refine (refDigit_any _ _).mono ?_; rintro e w' ⟨rfl, rfl⟩)
              refine (number_any _ _ HALL.out htz1 htz2).mono ?_
              rintro e w' ⟨he, rfl⟩
              rw [HVER.out] at he
              subst he
              by_cases he0 : er = 0
              · subst he0
                have HX : Hid (readP ((bts s).drop k) k = ((⟨2, ((bts s).drop k).take m, v, k⟩ : Lx), 0)) := by rw [HRD.out, if_pos rfl]; rfl
                have HBW1 : Hid (Below wr.heap.size wr (wr.alloc (.cells #[.int .i64 2, .string t, .int .i64 v, .int .i64 k] 109))) := (Below.refl _ _).alloc (Nat.le_refl _) _
                have HYC : Hid ([.int .i64 2, .string t, .int .i64 v, .int .i64 k] = lxCells (⟨2, ((bts s).drop k).take m, v, k⟩ : Lx)) := by rw [HSTR.out]; rfl
                clear HRD
                have hown1 : OwnsLx (wr.alloc (.cells #[.int .i64 2, .string t, .int .i64 v, .int .i64 k] 109)) w.heap.size u5 xs := ownsRow_below HOWN.out HBW1.out
                have HOWN1 := Lib.hid hown1
                clear hown1
                go_wp2_with (at_builtin; refine append_lx (wr.alloc (.cells #[.int .i64 2, .string t, .int .i64 v, .int .i64 k] 109)) rfl (.tmp 96) (.tmp 98) rfl w.heap.size u5 xs rfl HOWN1.out (by omega) (Nat.le_trans hbw.size HBW1.out.size) (⟨2, ((bts s).drop k).take m, v, k⟩ : Lx) 2 t v k (by rw [World.size_alloc]; rfl) HYC.out ?_; intro v2 w2 hown2 hg2; have HOWN2 := Lib.hid hown2; have HG2 := Lib.hid hg2; clear hown2 hg2)
                refine (refSkip_any _ _ _ (by omega) (by omega) (by omega)).mono ?_
                rintro e w3 ⟨he, rfl⟩
                obtain ⟨i, hi⟩ : ∃ i, skipN false ((bts s).drop (k + m)) = i := ⟨_, rfl⟩
                have hfit := skip_fits (by omega) hi
                rw [show ((j : Int)).toNat = k + m by omega, hi, show ((j : Int)) + (i : Int) = ((k + m + i : Nat) : Int) by omega] at he
                subst he
                have HREL3 := Lib.hid (scan_step hlt HX.out HTL.out hi HREL.out)
                have HBW2 := Lib.hid (below_round hbw HBW1.out HG2.out (fun b hb => (HOWN.out.lt b hb).1))
                clear hi
                go_wp2_with fail
                exact ⟨⟨k + m + i, xs ++ [(⟨2, ((bts s).drop k).take m, v, k⟩ : Lx)], by omega, rfl, by simp; omega, HOWN2.out, HBW2.out, HREL3.out⟩, by simp [intOf]; omega⟩

              · have hen : (er != 0) = true := by simpa using he0
                go_wp2_with fail
                have HX : Hid (readP ((bts s).drop k) k = (Lx.zero, er)) := by rw [HRD.out, if_neg he0]; rfl
                have HBW1 : Hid (Below wr.heap.size wr (wr.alloc (.cells #[.int .i64 0, .string ⟨#[]⟩, .int .i64 0, .int .i64 k] 109))) := (Below.refl _ _).alloc (Nat.le_refl _) _
                go_ret3
                have hRR := scan_stop hlt HX.out (by exact he0) HREL.out
                refine ⟨.slice none 0 0, ?_, ?_, ?_⟩
                · rw [HR.out, hRR]
                  rfl
                · rw [HR.out, hRR]
                  exact World.ownsRow_nil _ _ _ _
                · exact hbw.trans (HBW1.out.mono hbw.size)


    · go_wp2_with (at_builtin; refine append_lx wr rfl (.tmp 103) (.tmp 107) rfl w.heap.size u5 xs rfl HOWN.out (by omega) hbw.size (lxEnd s.size) 0 ⟨#[]⟩ 0 s.size rfl rfl ?_; intro v2 w2 hown2 hg2; have HOWN2 := Lib.hid hown2; clear hown2)
      go_ret3
      obtain rfl : k = s.size := by omega
      have hRR : R = (xs ++ [lxEnd s.size], 0, 0) := by
        have h := HREL.out
        rw [drop_nil s s.size (by omega), scanR_nil] at h
        rw [← h]
        rfl
      refine ⟨v2, ?_, ?_, ?_⟩
      · rw [HR.out, hRR]
        rfl
      · rw [HR.out, hRR]
        exact HOWN2.out
      · exact hbw.grown hg2 hbw.size (fun b hb => (HOWN.out.lt b hb).1)

theorem refScan_any (s : ByteArray) (w : World) (hs : s.size ≤ 9223372036854775807) : Calls Tryd.prog 67 #[.string s] w (ScanPost (bts s) w) := by
  by_cases hl : 8000 < s.size
  · exact refScan_long s w hl hs
  · exact refScan_short s w (by omega)

end Go.Proofs.YtbmcfodhjibooaaDoor
