/-
  The reference's Named and Depth (sawmillref44).
  The reference's formed and WellFormed (sawmillref44).
  The reference's numerals (sawmillref06.natural, Digits).
  The reference's strength, sign, within, text, WellFormed and Expr (sawmillref44).
-/
import Derived.Test.YtkalkglllgebkaaDoorRyC
import Derived.Test.YtkalkglllgebkaaDoorWRefB
namespace Go.Proofs.YtkalkglllgebkaaDoor
open Go.RowKit Saw Go.Sort

set_option maxHeartbeats 1000000 in
theorem rNamed_any (s : ByteArray) (w : World) (hs : s.size ≤ 9223372036854775807) : Calls Tryd.prog 87 #[.string s] w fun e w' => e = .returned (.bool (namedP (bts s))) ∧ w = w' := by
  have HN := Lib.hid (refIsName_any s w hs)
  obtain ⟨q, hq⟩ : ∃ q, isNameP (bts s) = q := ⟨_, rfl⟩
  rw [hq] at HN
  have hp : namedP (bts s) = (q && !(s.toList == [97, 110, 100] || s.toList == [111, 114] || s.toList == [110, 111, 116] || s.toList == [119, 104, 101, 110] || s.toList == [103, 114, 97, 100, 101])) := by rw [namedP, hq, ← toList_bts]; rfl
  rw [hp]
  clear hp hq
  have aux : ∀ P : Prop, (q = true → P) → (q = false → P) → P := fun P h1 h2 => by cases q with | true => exact h1 rfl | false => exact h2 rfl
  cases q with
  | false =>
    go_enter Tryd.func87, Tryd.ntmps87
    go_wp2_with fail
    refine HN.out.mono ?_
    rintro e w1 ⟨he, rfl⟩
    subst he
    go_wp2_with fail
    go_ret
    exact ⟨rfl, rfl⟩
  | true =>
    clear aux
    go_enter Tryd.func87, Tryd.ntmps87
    go_wp2_with fail
    refine HN.out.mono ?_
    rintro e w1 ⟨he, rfl⟩
    subst he
    clear HN
    by_cases a1 : s.toList = [97, 110, 100]
    · go_wp2_with fail
      go_ret
      exact ⟨ret_bool (by simp [a1]), rfl⟩
    by_cases a2 : s.toList = [111, 114]
    · go_wp2_with fail
      go_ret
      exact ⟨ret_bool (by simp [a2]), rfl⟩
    by_cases a3 : s.toList = [110, 111, 116]
    · go_wp2_with fail
      go_ret
      exact ⟨ret_bool (by simp [a3]), rfl⟩
    by_cases a4 : s.toList = [119, 104, 101, 110]
    · go_wp2_with fail
      go_ret
      exact ⟨ret_bool (by simp [a4]), rfl⟩
    by_cases a5 : s.toList = [103, 114, 97, 100, 101]
    · go_wp2_with fail
      go_ret
      exact ⟨ret_bool (by simp [a5]), rfl⟩
    go_wp2_with fail
    go_ret
    exact ⟨ret_bool (by simp), rfl⟩

set_option maxRecDepth 100000 in
set_option maxHeartbeats 1000000 in
theorem rDepth_any : ∀ (N : Nat) (x : Ex), x.size ≤ N → x.depth ≤ 1000000000 → ∀ (A : Option Addr) (c : Nat) (w : World), RdFo w (Iv 0 w.heap.size) (.slice A x.kids.toList.length c) x.kids →
    Calls Tryd.prog 58 #[.agg #[.int .i64 x.op, .int .i64 x.n, .string (str x.name), .slice A x.kids.toList.length c]] w (IntB x.depth w) := by
  intro N
  induction N with
  | zero => intro x h; simp only [Ex.size] at h; omega
  | succ N ih =>
    intro x hN hD A c w hrd
    obtain ⟨_, _, _, hc, hml⟩ := hrd.form
    clear hc
    unfold maxLen at hml
    have HRD := Lib.hid hrd
    have HI := Lib.hid ih
    clear ih hrd
    have HMX := Lib.hid (fun i => maxDep_le (f := x.kids) i)
    have hdk : x.kids.depth + 1 = x.depth := rfl
    have hB := bel_alloc (ob := .cells #[.int .i64 x.op, .int .i64 x.n, .string (str x.name), .slice A x.kids.toList.length c] 24) (Below.refl w.heap.size w)
    have hR1 := heap_alloc_last w (.cells #[.int .i64 x.op, .int .i64 x.n, .string (str x.name), .slice A x.kids.toList.length c] 24)
    go_enter Tryd.func58, Tryd.ntmps58
    go_wp2_with fail
    obtain ⟨n0, hn0⟩ : ∃ n, w.heap.size = n := ⟨_, rfl⟩
    obtain ⟨W0, hW0⟩ : ∃ W, w.alloc (.cells #[.int .i64 x.op, .int .i64 x.n, .string (str x.name), .slice A x.kids.toList.length c] 24) = W := ⟨_, rfl⟩
    rw [hW0] at hB hR1 ⊢
    have HRA0 := Lib.hid (HRD.out.next hB)
    have HB := Lib.hid hB
    rw [hn0] at hR1 ⊢
    have HR1 := Lib.hid hR1
    clear hB hR1 hW0 hn0 HRD
    go_loopw [3, 4] (fun nv i wr => ∃ k : Nat, k ≤ x.kids.toList.length ∧ i = .int .i64 k ∧ nv = .int .i64 (maxDep (x.kids.toList.take k) : Nat) ∧ Below W0.heap.size W0 wr) (fun _ i _ => x.kids.toList.length - (intOf i).toNat)
    case atStart => exact ⟨0, by omega, rfl, rfl, Below.refl _ _⟩
    case round =>
      obtain ⟨k, hk, rfl, rfl, hb⟩ := hrel
      have HB0 := Lib.hid hb
      have hsz := hb.size
      have r1 : wr.cell? ⟨n0, 3, none⟩ = some (.slice A x.kids.toList.length c) := (hb.cell (p := ⟨n0, 3, none⟩) (Array.getElem?_eq_some_iff.1 HR1.out).1).trans (cell_of_box HR1.out rfl)
      clear hb
      have hmk := HMX.out k
      by_cases hlt : k < x.kids.toList.length
      · have hx : x.kids.toList[k]? = some x.kids.toList[k] := List.getElem?_eq_getElem hlt
        obtain ⟨y, hye⟩ : ∃ y, x.kids.toList[k] = y := ⟨_, rfl⟩
        rw [hye] at hx
        have hym := List.mem_of_getElem? hx
        have HSZ := Lib.hid (kids_size hym)
        have hyd := kids_depth hym
        have HTK := Lib.hid (maxDep_take _ _ _ hx)
        obtain ⟨b, off, A1, c1, rfl, hS, hyr, hg⟩ := (HRA0.out.next HB0.out).at_ hx
        have HG := Lib.hid hg
        have HY := Lib.hid hyr
        clear hx hye hym hyr hg
        go_wp2_with (first
          | ((with_reducible refine ex_load b (off + k * 4) y (.slice A1 y.kids.toList.length c1) ?hx HG.out ?_); (case hx => rfl)))
        refine (HI.out y (by have := HSZ.out; omega) (by omega) A1 c1 _ HY.out).mono ?_
        rintro e w2 ⟨he, hb2⟩
        subst he
        have HB2 := Lib.hid (bel_call HB0.out hb2)
        clear hb2 r1
        go_wp2_with fail
        refine ⟨⟨k + 1, by omega, by go_num, ?_, HB2.out⟩, by simp [intOf]; omega⟩
        rw [HTK.out]
        congr 1
        omega
      · have hke : k = x.kids.toList.length := by omega
        have HE := Lib.hid (show maxDep (x.kids.toList.take k) = x.kids.depth by rw [hke, List.take_length, maxDep_all])
        clear hke
        go_wp2_with fail
        go_ret
        exact ⟨ret_int (by rw [HE.out, ← hdk]; rfl), bel_call HB.out HB0.out⟩

end Go.Proofs.YtkalkglllgebkaaDoor

namespace Saw
theorem formed_not {x : Ex} (h : ¬ headP x.op x.n x.name x.kids.toList.length = true) : formedE x = false := by
  rw [formedE]
  cases hh : headP x.op x.n x.name x.kids.toList.length with
  | true => exact absurd hh h
  | false => rfl
theorem formedF_all : ∀ f : Fo, formedF f = f.toList.all formedE
  | .nil => rfl
  | .cons o n m k r => by rw [formedF, Fo.toList, List.all_cons, formedF_all r]; rfl
theorem formed_all {x : Ex} (h : headP x.op x.n x.name x.kids.toList.length = true) : formedE x = x.kids.toList.all formedE := by
  rw [formedE, h, Bool.true_and, formedF_all]
theorem head_mk {op n : Int} {nm : List UInt8} {k : Nat} (h1 : 1 ≤ op) (h2 : op ≤ 11) (h3 : k = takesP op) (h4 : -1099511627776 ≤ n) (h5 : n ≤ 1099511627776) (h6 : n = 0 ∨ op = 1) (h7 : if op = 2 then namedP nm = true else nm = []) : headP op n nm k = true := by
  simp only [headP, Bool.and_eq_true, Bool.or_eq_true, decide_eq_true_eq]
  refine ⟨⟨⟨⟨⟨⟨h1, h2⟩, h3⟩, h4⟩, h5⟩, h6⟩, ?_⟩
  split
  · rename_i h; rw [if_pos h] at h7; exact h7
  · rename_i h; rw [if_neg h] at h7; rw [h7]; rfl
end Saw
namespace Go.Proofs.YtkalkglllgebkaaDoor
open Go.RowKit Saw Go.Sort

set_option maxRecDepth 100000 in
set_option maxHeartbeats 4000000 in
theorem rformed_any : ∀ (N : Nat) (x : Ex), x.size ≤ N → NmE 1000000 x → ∀ (A : Option Addr) (c : Nat) (w : World), RdFo w (Iv 0 w.heap.size) (.slice A x.kids.toList.length c) x.kids →
    Calls Tryd.prog 57 #[.agg #[.int .i64 x.op, .int .i64 x.n, .string (str x.name), .slice A x.kids.toList.length c]] w (BoolB (formedE x) w) := by
  intro N
  induction N with
  | zero => intro x h; simp only [Ex.size] at h; omega
  | succ N ih =>
    intro x hN hnm A c w hrd
    obtain ⟨_, _, _, hc, hml⟩ := hrd.form
    clear hc
    unfold maxLen at hml
    have HRD := Lib.hid hrd
    have HI := Lib.hid ih
    have HT := Lib.hid (rNamed_any (str x.name))
    have HNM := Lib.hid hnm
    have HTL := Lib.hid (show (str x.name).toList = x.name by rw [toList_bts, bts_str])
    clear ih hrd hnm
    obtain ⟨q, hq⟩ : ∃ q, formedE x = q := ⟨_, rfl⟩
    rw [hq]
    have HQ := Lib.hid hq
    clear hq
    have hor : x.op = 1 ∨ x.op = 2 ∨ x.op = 9 ∨ (x.op ≠ 1 ∧ x.op ≠ 2 ∧ x.op ≠ 9) := by omega
    rcases hor with hcl | hcl | hcl | hcl
    · skip
      have HC := Lib.hid hcl
      clear hcl
      have e1 : (x.op == 1) = true := by rw [beq_iff_eq]; exact HC.out
      have e2 : (x.op == 2) = false := by rw [beq_eq_false_iff_ne]; have := HC.out; omega
      have e9 : (x.op == 9) = false := by rw [beq_eq_false_iff_ne]; have := HC.out; omega
      have f1 : (x.op != 1) = false := by rw [bne_eq_false_iff_eq]; exact HC.out
      have f2 : (x.op != 2) = true := by rw [bne_iff_ne]; have := HC.out; omega
      have a1 : ¬ x.op < 1 := by have := HC.out; omega
      have a2 : ¬ 11 < x.op := by have := HC.out; omega
      by_cases a3 : x.kids.toList.length = 0
      case neg =>
        have b3 : ((x.kids.toList.length : Int) != 0) = true := by rw [bne_iff_ne]; omega
        have HA3 := Lib.hid a3
        clear a3
        have hqf : q = false := by rw [← HQ.out, formed_not (fun hh => by obtain ⟨o1, o2, o3, o4, o5, o6, o7⟩ := head_facts hh; rw [takesP, if_pos (Or.inl HC.out)] at o3; exact HA3.out o3)]
        subst hqf
        go_enter Tryd.func57, Tryd.ntmps57
        go_wp2_with fail
        go_ret
        exact ⟨rfl, bel_alloc (Below.refl _ _)⟩
      have b3 : ((x.kids.toList.length : Int) != 0) = false := by rw [bne_eq_false_iff_eq]; omega
      have HP3 := Lib.hid a3
      clear a3
      by_cases a4 : x.n < -1099511627776
      · skip
        have hqf : q = false := by rw [← HQ.out, formed_not (fun hh => by obtain ⟨o1, o2, o3, o4, o5, o6, o7⟩ := head_facts hh; omega)]
        subst hqf
        go_enter Tryd.func57, Tryd.ntmps57
        go_wp2_with fail
        go_ret
        exact ⟨rfl, bel_alloc (Below.refl _ _)⟩
      by_cases a5 : 1099511627776 < x.n
      · skip
        have hqf : q = false := by rw [← HQ.out, formed_not (fun hh => by obtain ⟨o1, o2, o3, o4, o5, o6, o7⟩ := head_facts hh; omega)]
        subst hqf
        go_enter Tryd.func57, Tryd.ntmps57
        go_wp2_with fail
        go_ret
        exact ⟨rfl, bel_alloc (Below.refl _ _)⟩
      have HP4 := Lib.hid a4
      have HP5 := Lib.hid a5
      have HP1 := Lib.hid a1
      have HP2 := Lib.hid a2
      have HP6 := Lib.hid (show x.n = 0 ∨ x.op = 1 from .inr HC.out)
      obtain ⟨b, hb6⟩ : ∃ b, (x.n != 0) = b := ⟨_, rfl⟩
      cases b
      all_goals
        by_cases a7 : x.name = []
        case neg =>
          have b7 : (str x.name).toList.isEmpty = false := by rw [HTL.out]; cases hh : x.name with | nil => exact absurd hh a7 | cons a r => rfl
          have HA7 := Lib.hid a7
          clear a7
          have hqf : q = false := by rw [← HQ.out, formed_not (fun hh => by obtain ⟨o1, o2, o3, o4, o5, o6, o7⟩ := head_facts hh; rw [if_neg (by have := HC.out; omega)] at o7; exact HA7.out o7)]
          subst hqf
          go_enter Tryd.func57, Tryd.ntmps57
          go_wp2_with fail
          go_ret
          exact ⟨rfl, bel_alloc (Below.refl _ _)⟩
        have b7 : (str x.name).toList.isEmpty = true := by rw [HTL.out, a7]; rfl
        have HP7 := Lib.hid (show (if x.op = 2 then namedP x.name = true else x.name = []) by rw [if_neg (by have := HC.out; omega)]; exact a7)
        clear a7
        have HF := Lib.hid (show (x.kids.toList.drop 0).all formedE = q by rw [List.drop_zero, ← HQ.out]; exact (formed_all (head_mk (by have := HP1.out; omega) (by have := HP2.out; omega) (by rw [takesP, if_pos (Or.inl HC.out)]; exact HP3.out) (by have := HP4.out; omega) (by have := HP5.out; omega) HP6.out HP7.out)).symm)
        clear HP1 HP2 HP4 HP5 HP6 HP7
        have hB := bel_alloc (ob := .cells #[.int .i64 x.op, .int .i64 x.n, .string (str x.name), .slice A x.kids.toList.length c] 24) (Below.refl w.heap.size w)
        have hR1 := heap_alloc_last w (.cells #[.int .i64 x.op, .int .i64 x.n, .string (str x.name), .slice A x.kids.toList.length c] 24)
        go_enter Tryd.func57, Tryd.ntmps57
        go_wp2_with fail
        obtain ⟨n0, hn0⟩ : ∃ n, w.heap.size = n := ⟨_, rfl⟩
        obtain ⟨W0, hW0⟩ : ∃ W, w.alloc (.cells #[.int .i64 x.op, .int .i64 x.n, .string (str x.name), .slice A x.kids.toList.length c] 24) = W := ⟨_, rfl⟩
        rw [hW0] at hB hR1 ⊢
        have HRA0 := Lib.hid (HRD.out.next hB)
        have HB := Lib.hid hB
        rw [hn0] at hR1 ⊢
        have HR1 := Lib.hid hR1
        clear hB hR1 hW0 hn0
        go_loopw [4] (fun i wr => ∃ k : Nat, k ≤ x.kids.toList.length ∧ i = .int .i64 k ∧ (x.kids.toList.drop k).all formedE = q ∧ Below W0.heap.size W0 wr) (fun i _ => x.kids.toList.length - (intOf i).toNat)
        case atStart => exact ⟨0, by omega, rfl, HF.out, Below.refl _ _⟩
        case round =>
          obtain ⟨k, hk, rfl, hq0, hb⟩ := hrel
          have HB0 := Lib.hid hb
          have HFK := Lib.hid hq0
          have hsz := hb.size
          have r1 : wr.cell? ⟨n0, 3, none⟩ = some (.slice A x.kids.toList.length c) := (hb.cell (p := ⟨n0, 3, none⟩) (Array.getElem?_eq_some_iff.1 HR1.out).1).trans (cell_of_box HR1.out rfl)
          clear hb hq0
          by_cases hlt : k < x.kids.toList.length
          · have hx : x.kids.toList[k]? = some x.kids.toList[k] := List.getElem?_eq_getElem hlt
            have hdr := List.drop_eq_getElem_cons hlt
            obtain ⟨y, hye⟩ : ∃ y, x.kids.toList[k] = y := ⟨_, rfl⟩
            rw [hye] at hx hdr
            have hym := List.mem_of_getElem? hx
            have HSZ := Lib.hid (kids_size hym)
            have HNY := Lib.hid (nm_mem HNM.out.2 y hym)
            obtain ⟨m, hm⟩ : ∃ m, formedE y = m := ⟨_, rfl⟩
            have HAL := Lib.hid (show (m && (x.kids.toList.drop (k + 1)).all formedE) = q by rw [← HFK.out, hdr, List.all_cons, hm])
            have HME := Lib.hid hm
            obtain ⟨b, off, A1, c1, rfl, hS, hyr, hg⟩ := (HRA0.out.next HB0.out).at_ hx
            have HG := Lib.hid hg
            have HY := Lib.hid hyr
            clear hx hye hym hyr hg hdr hm
            go_wp2_with (first
              | ((with_reducible refine ex_load b (off + k * 4) y (.slice A1 y.kids.toList.length c1) ?hx HG.out ?_); (case hx => rfl)))
            refine (HI.out y (by have := HSZ.out; omega) HNY.out A1 c1 _ HY.out).mono ?_
            rintro e w2 ⟨he, hb2⟩
            rw [HME.out] at he
            subst he
            have HB2 := Lib.hid (bel_call HB0.out hb2)
            clear hb2 r1
            cases m with
            | true =>
              have HAN := Lib.hid (show (x.kids.toList.drop (k + 1)).all formedE = q by rw [← HAL.out, Bool.true_and])
              go_wp2_with fail
              exact ⟨⟨k + 1, by omega, by go_num, HAN.out, HB2.out⟩, by simp [intOf]; omega⟩
            | false =>
              have hqf : q = false := by rw [← HAL.out, Bool.false_and]
              subst hqf
              go_wp2_with fail
              go_ret
              exact ⟨rfl, bel_call HB.out HB2.out⟩
          · have hqt : q = true := by rw [← HFK.out, List.drop_eq_nil_of_le (by omega)]; rfl
            subst hqt
            clear HFK
            go_wp2_with fail
            go_ret
            exact ⟨rfl, bel_call HB.out HB0.out⟩
    · skip
      have HC := Lib.hid hcl
      clear hcl
      have e1 : (x.op == 1) = false := by rw [beq_eq_false_iff_ne]; have := HC.out; omega
      have e2 : (x.op == 2) = true := by rw [beq_iff_eq]; exact HC.out
      have e9 : (x.op == 9) = false := by rw [beq_eq_false_iff_ne]; have := HC.out; omega
      have f1 : (x.op != 1) = true := by rw [bne_iff_ne]; have := HC.out; omega
      have f2 : (x.op != 2) = false := by rw [bne_eq_false_iff_eq]; exact HC.out
      have a1 : ¬ x.op < 1 := by have := HC.out; omega
      have a2 : ¬ 11 < x.op := by have := HC.out; omega
      by_cases a3 : x.kids.toList.length = 0
      case neg =>
        have b3 : ((x.kids.toList.length : Int) != 0) = true := by rw [bne_iff_ne]; omega
        have HA3 := Lib.hid a3
        clear a3
        have hqf : q = false := by rw [← HQ.out, formed_not (fun hh => by obtain ⟨o1, o2, o3, o4, o5, o6, o7⟩ := head_facts hh; rw [takesP, if_pos (Or.inr HC.out)] at o3; exact HA3.out o3)]
        subst hqf
        go_enter Tryd.func57, Tryd.ntmps57
        go_wp2_with fail
        go_ret
        exact ⟨rfl, bel_alloc (Below.refl _ _)⟩
      have b3 : ((x.kids.toList.length : Int) != 0) = false := by rw [bne_eq_false_iff_eq]; omega
      have HP3 := Lib.hid a3
      clear a3
      by_cases a4 : x.n < -1099511627776
      · skip
        have hqf : q = false := by rw [← HQ.out, formed_not (fun hh => by obtain ⟨o1, o2, o3, o4, o5, o6, o7⟩ := head_facts hh; omega)]
        subst hqf
        go_enter Tryd.func57, Tryd.ntmps57
        go_wp2_with fail
        go_ret
        exact ⟨rfl, bel_alloc (Below.refl _ _)⟩
      by_cases a5 : 1099511627776 < x.n
      · skip
        have hqf : q = false := by rw [← HQ.out, formed_not (fun hh => by obtain ⟨o1, o2, o3, o4, o5, o6, o7⟩ := head_facts hh; omega)]
        subst hqf
        go_enter Tryd.func57, Tryd.ntmps57
        go_wp2_with fail
        go_ret
        exact ⟨rfl, bel_alloc (Below.refl _ _)⟩
      have HP4 := Lib.hid a4
      have HP5 := Lib.hid a5
      have HP1 := Lib.hid a1
      have HP2 := Lib.hid a2
      by_cases a6 : x.n = 0
      case neg =>
        have b6 : (x.n != 0) = true := by rw [bne_iff_ne]; exact a6
        have HA6 := Lib.hid a6
        clear a6
        have hqf : q = false := by rw [← HQ.out, formed_not (fun hh => by obtain ⟨o1, o2, o3, o4, o5, o6, o7⟩ := head_facts hh; rcases o6 with h | h; exact HA6.out h; have := HC.out; omega)]
        subst hqf
        go_enter Tryd.func57, Tryd.ntmps57
        go_wp2_with fail
        go_ret
        exact ⟨rfl, bel_alloc (Below.refl _ _)⟩
      have b6 : (x.n != 0) = false := by rw [bne_eq_false_iff_eq]; exact a6
      have HP6 := Lib.hid (show x.n = 0 ∨ x.op = 1 from .inl a6)
      clear a6
      obtain ⟨m, hm⟩ : ∃ m, namedP x.name = m := ⟨_, rfl⟩
      have HM := Lib.hid hm
      clear hm
      cases m with
      | false =>
        have hqf : q = false := by rw [← HQ.out, formed_not (fun hh => by obtain ⟨o1, o2, o3, o4, o5, o6, o7⟩ := head_facts hh; rw [if_pos HC.out, HM.out] at o7; cases o7)]
        subst hqf
        go_enter Tryd.func57, Tryd.ntmps57
        go_wp2_with fail
        refine (HT.out _ (by rw [size_str]; have := HNM.out.1; omega)).mono ?_
        rintro e w1 ⟨he, rfl⟩
        rw [bts_str, HM.out] at he
        subst he
        go_wp2_with fail
        go_ret
        exact ⟨rfl, bel_alloc (Below.refl _ _)⟩
      | true =>
        have HP7 := Lib.hid (show (if x.op = 2 then namedP x.name = true else x.name = []) by rw [if_pos HC.out]; exact HM.out)
        have HF := Lib.hid (show (x.kids.toList.drop 0).all formedE = q by rw [List.drop_zero, ← HQ.out]; exact (formed_all (head_mk (by have := HP1.out; omega) (by have := HP2.out; omega) (by rw [takesP, if_pos (Or.inr HC.out)]; exact HP3.out) (by have := HP4.out; omega) (by have := HP5.out; omega) HP6.out HP7.out)).symm)
        clear HP1 HP2 HP4 HP5 HP6 HP7
        have hB := bel_alloc (ob := .cells #[.int .i64 x.op, .int .i64 x.n, .string (str x.name), .slice A x.kids.toList.length c] 24) (Below.refl w.heap.size w)
        have hR1 := heap_alloc_last w (.cells #[.int .i64 x.op, .int .i64 x.n, .string (str x.name), .slice A x.kids.toList.length c] 24)
        go_enter Tryd.func57, Tryd.ntmps57
        go_wp2_with fail
        refine (HT.out _ (by rw [size_str]; have := HNM.out.1; omega)).mono ?_
        rintro e w1 ⟨he, rfl⟩
        rw [bts_str, HM.out] at he
        subst he
        go_wp2_with fail
        obtain ⟨n0, hn0⟩ : ∃ n, w.heap.size = n := ⟨_, rfl⟩
        obtain ⟨W0, hW0⟩ : ∃ W, w.alloc (.cells #[.int .i64 x.op, .int .i64 x.n, .string (str x.name), .slice A x.kids.toList.length c] 24) = W := ⟨_, rfl⟩
        rw [hW0] at hB hR1 ⊢
        have HRA0 := Lib.hid (HRD.out.next hB)
        have HB := Lib.hid hB
        rw [hn0] at hR1 ⊢
        have HR1 := Lib.hid hR1
        clear hB hR1 hW0 hn0
        go_loopw [4] (fun i wr => ∃ k : Nat, k ≤ x.kids.toList.length ∧ i = .int .i64 k ∧ (x.kids.toList.drop k).all formedE = q ∧ Below W0.heap.size W0 wr) (fun i _ => x.kids.toList.length - (intOf i).toNat)
        case atStart => exact ⟨0, by omega, rfl, HF.out, Below.refl _ _⟩
        case round =>
          obtain ⟨k, hk, rfl, hq0, hb⟩ := hrel
          have HB0 := Lib.hid hb
          have HFK := Lib.hid hq0
          have hsz := hb.size
          have r1 : wr.cell? ⟨n0, 3, none⟩ = some (.slice A x.kids.toList.length c) := (hb.cell (p := ⟨n0, 3, none⟩) (Array.getElem?_eq_some_iff.1 HR1.out).1).trans (cell_of_box HR1.out rfl)
          clear hb hq0
          by_cases hlt : k < x.kids.toList.length
          · have hx : x.kids.toList[k]? = some x.kids.toList[k] := List.getElem?_eq_getElem hlt
            have hdr := List.drop_eq_getElem_cons hlt
            obtain ⟨y, hye⟩ : ∃ y, x.kids.toList[k] = y := ⟨_, rfl⟩
            rw [hye] at hx hdr
            have hym := List.mem_of_getElem? hx
            have HSZ := Lib.hid (kids_size hym)
            have HNY := Lib.hid (nm_mem HNM.out.2 y hym)
            obtain ⟨m, hm⟩ : ∃ m, formedE y = m := ⟨_, rfl⟩
            have HAL := Lib.hid (show (m && (x.kids.toList.drop (k + 1)).all formedE) = q by rw [← HFK.out, hdr, List.all_cons, hm])
            have HME := Lib.hid hm
            obtain ⟨b, off, A1, c1, rfl, hS, hyr, hg⟩ := (HRA0.out.next HB0.out).at_ hx
            have HG := Lib.hid hg
            have HY := Lib.hid hyr
            clear hx hye hym hyr hg hdr hm
            go_wp2_with (first
              | ((with_reducible refine ex_load b (off + k * 4) y (.slice A1 y.kids.toList.length c1) ?hx HG.out ?_); (case hx => rfl)))
            refine (HI.out y (by have := HSZ.out; omega) HNY.out A1 c1 _ HY.out).mono ?_
            rintro e w2 ⟨he, hb2⟩
            rw [HME.out] at he
            subst he
            have HB2 := Lib.hid (bel_call HB0.out hb2)
            clear hb2 r1
            cases m with
            | true =>
              have HAN := Lib.hid (show (x.kids.toList.drop (k + 1)).all formedE = q by rw [← HAL.out, Bool.true_and])
              go_wp2_with fail
              exact ⟨⟨k + 1, by omega, by go_num, HAN.out, HB2.out⟩, by simp [intOf]; omega⟩
            | false =>
              have hqf : q = false := by rw [← HAL.out, Bool.false_and]
              subst hqf
              go_wp2_with fail
              go_ret
              exact ⟨rfl, bel_call HB.out HB2.out⟩
          · have hqt : q = true := by rw [← HFK.out, List.drop_eq_nil_of_le (by omega)]; rfl
            subst hqt
            clear HFK
            go_wp2_with fail
            go_ret
            exact ⟨rfl, bel_call HB.out HB0.out⟩
    · skip
      have HC := Lib.hid hcl
      clear hcl
      have e1 : (x.op == 1) = false := by rw [beq_eq_false_iff_ne]; have := HC.out; omega
      have e2 : (x.op == 2) = false := by rw [beq_eq_false_iff_ne]; have := HC.out; omega
      have e9 : (x.op == 9) = true := by rw [beq_iff_eq]; exact HC.out
      have f1 : (x.op != 1) = true := by rw [bne_iff_ne]; have := HC.out; omega
      have f2 : (x.op != 2) = true := by rw [bne_iff_ne]; have := HC.out; omega
      have a1 : ¬ x.op < 1 := by have := HC.out; omega
      have a2 : ¬ 11 < x.op := by have := HC.out; omega
      by_cases a3 : x.kids.toList.length = 1
      case neg =>
        have b3 : ((x.kids.toList.length : Int) != 1) = true := by rw [bne_iff_ne]; omega
        have HA3 := Lib.hid a3
        clear a3
        have hqf : q = false := by rw [← HQ.out, formed_not (fun hh => by obtain ⟨o1, o2, o3, o4, o5, o6, o7⟩ := head_facts hh; rw [takesP, if_neg (by have := HC.out; omega), if_pos HC.out] at o3; exact HA3.out o3)]
        subst hqf
        go_enter Tryd.func57, Tryd.ntmps57
        go_wp2_with fail
        go_ret
        exact ⟨rfl, bel_alloc (Below.refl _ _)⟩
      have b3 : ((x.kids.toList.length : Int) != 1) = false := by rw [bne_eq_false_iff_eq]; omega
      have HP3 := Lib.hid a3
      clear a3
      by_cases a4 : x.n < -1099511627776
      · skip
        have hqf : q = false := by rw [← HQ.out, formed_not (fun hh => by obtain ⟨o1, o2, o3, o4, o5, o6, o7⟩ := head_facts hh; omega)]
        subst hqf
        go_enter Tryd.func57, Tryd.ntmps57
        go_wp2_with fail
        go_ret
        exact ⟨rfl, bel_alloc (Below.refl _ _)⟩
      by_cases a5 : 1099511627776 < x.n
      · skip
        have hqf : q = false := by rw [← HQ.out, formed_not (fun hh => by obtain ⟨o1, o2, o3, o4, o5, o6, o7⟩ := head_facts hh; omega)]
        subst hqf
        go_enter Tryd.func57, Tryd.ntmps57
        go_wp2_with fail
        go_ret
        exact ⟨rfl, bel_alloc (Below.refl _ _)⟩
      have HP4 := Lib.hid a4
      have HP5 := Lib.hid a5
      have HP1 := Lib.hid a1
      have HP2 := Lib.hid a2
      by_cases a6 : x.n = 0
      case neg =>
        have b6 : (x.n != 0) = true := by rw [bne_iff_ne]; exact a6
        have HA6 := Lib.hid a6
        clear a6
        have hqf : q = false := by rw [← HQ.out, formed_not (fun hh => by obtain ⟨o1, o2, o3, o4, o5, o6, o7⟩ := head_facts hh; rcases o6 with h | h; exact HA6.out h; have := HC.out; omega)]
        subst hqf
        go_enter Tryd.func57, Tryd.ntmps57
        go_wp2_with fail
        go_ret
        exact ⟨rfl, bel_alloc (Below.refl _ _)⟩
      have b6 : (x.n != 0) = false := by rw [bne_eq_false_iff_eq]; exact a6
      have HP6 := Lib.hid (show x.n = 0 ∨ x.op = 1 from .inl a6)
      clear a6
      by_cases a7 : x.name = []
      case neg =>
        have b7 : (str x.name).toList.isEmpty = false := by rw [HTL.out]; cases hh : x.name with | nil => exact absurd hh a7 | cons a r => rfl
        have HA7 := Lib.hid a7
        clear a7
        have hqf : q = false := by rw [← HQ.out, formed_not (fun hh => by obtain ⟨o1, o2, o3, o4, o5, o6, o7⟩ := head_facts hh; rw [if_neg (by have := HC.out; omega)] at o7; exact HA7.out o7)]
        subst hqf
        go_enter Tryd.func57, Tryd.ntmps57
        go_wp2_with fail
        go_ret
        exact ⟨rfl, bel_alloc (Below.refl _ _)⟩
      have b7 : (str x.name).toList.isEmpty = true := by rw [HTL.out, a7]; rfl
      have HP7 := Lib.hid (show (if x.op = 2 then namedP x.name = true else x.name = []) by rw [if_neg (by have := HC.out; omega)]; exact a7)
      clear a7
      have HF := Lib.hid (show (x.kids.toList.drop 0).all formedE = q by rw [List.drop_zero, ← HQ.out]; exact (formed_all (head_mk (by have := HP1.out; omega) (by have := HP2.out; omega) (by rw [takesP, if_neg (by have := HC.out; omega), if_pos HC.out]; exact HP3.out) (by have := HP4.out; omega) (by have := HP5.out; omega) HP6.out HP7.out)).symm)
      clear HP1 HP2 HP4 HP5 HP6 HP7
      have hB := bel_alloc (ob := .cells #[.int .i64 x.op, .int .i64 x.n, .string (str x.name), .slice A x.kids.toList.length c] 24) (Below.refl w.heap.size w)
      have hR1 := heap_alloc_last w (.cells #[.int .i64 x.op, .int .i64 x.n, .string (str x.name), .slice A x.kids.toList.length c] 24)
      go_enter Tryd.func57, Tryd.ntmps57
      go_wp2_with fail
      obtain ⟨n0, hn0⟩ : ∃ n, w.heap.size = n := ⟨_, rfl⟩
      obtain ⟨W0, hW0⟩ : ∃ W, w.alloc (.cells #[.int .i64 x.op, .int .i64 x.n, .string (str x.name), .slice A x.kids.toList.length c] 24) = W := ⟨_, rfl⟩
      rw [hW0] at hB hR1 ⊢
      have HRA0 := Lib.hid (HRD.out.next hB)
      have HB := Lib.hid hB
      rw [hn0] at hR1 ⊢
      have HR1 := Lib.hid hR1
      clear hB hR1 hW0 hn0
      go_loopw [4] (fun i wr => ∃ k : Nat, k ≤ x.kids.toList.length ∧ i = .int .i64 k ∧ (x.kids.toList.drop k).all formedE = q ∧ Below W0.heap.size W0 wr) (fun i _ => x.kids.toList.length - (intOf i).toNat)
      case atStart => exact ⟨0, by omega, rfl, HF.out, Below.refl _ _⟩
      case round =>
        obtain ⟨k, hk, rfl, hq0, hb⟩ := hrel
        have HB0 := Lib.hid hb
        have HFK := Lib.hid hq0
        have hsz := hb.size
        have r1 : wr.cell? ⟨n0, 3, none⟩ = some (.slice A x.kids.toList.length c) := (hb.cell (p := ⟨n0, 3, none⟩) (Array.getElem?_eq_some_iff.1 HR1.out).1).trans (cell_of_box HR1.out rfl)
        clear hb hq0
        by_cases hlt : k < x.kids.toList.length
        · have hx : x.kids.toList[k]? = some x.kids.toList[k] := List.getElem?_eq_getElem hlt
          have hdr := List.drop_eq_getElem_cons hlt
          obtain ⟨y, hye⟩ : ∃ y, x.kids.toList[k] = y := ⟨_, rfl⟩
          rw [hye] at hx hdr
          have hym := List.mem_of_getElem? hx
          have HSZ := Lib.hid (kids_size hym)
          have HNY := Lib.hid (nm_mem HNM.out.2 y hym)
          obtain ⟨m, hm⟩ : ∃ m, formedE y = m := ⟨_, rfl⟩
          have HAL := Lib.hid (show (m && (x.kids.toList.drop (k + 1)).all formedE) = q by rw [← HFK.out, hdr, List.all_cons, hm])
          have HME := Lib.hid hm
          obtain ⟨b, off, A1, c1, rfl, hS, hyr, hg⟩ := (HRA0.out.next HB0.out).at_ hx
          have HG := Lib.hid hg
          have HY := Lib.hid hyr
          clear hx hye hym hyr hg hdr hm
          go_wp2_with (first
            | ((with_reducible refine ex_load b (off + k * 4) y (.slice A1 y.kids.toList.length c1) ?hx HG.out ?_); (case hx => rfl)))
          refine (HI.out y (by have := HSZ.out; omega) HNY.out A1 c1 _ HY.out).mono ?_
          rintro e w2 ⟨he, hb2⟩
          rw [HME.out] at he
          subst he
          have HB2 := Lib.hid (bel_call HB0.out hb2)
          clear hb2 r1
          cases m with
          | true =>
            have HAN := Lib.hid (show (x.kids.toList.drop (k + 1)).all formedE = q by rw [← HAL.out, Bool.true_and])
            go_wp2_with fail
            exact ⟨⟨k + 1, by omega, by go_num, HAN.out, HB2.out⟩, by simp [intOf]; omega⟩
          | false =>
            have hqf : q = false := by rw [← HAL.out, Bool.false_and]
            subst hqf
            go_wp2_with fail
            go_ret
            exact ⟨rfl, bel_call HB.out HB2.out⟩
        · have hqt : q = true := by rw [← HFK.out, List.drop_eq_nil_of_le (by omega)]; rfl
          subst hqt
          clear HFK
          go_wp2_with fail
          go_ret
          exact ⟨rfl, bel_call HB.out HB0.out⟩
    · skip
      have HC := Lib.hid hcl
      clear hcl
      have e1 : (x.op == 1) = false := by rw [beq_eq_false_iff_ne]; have := HC.out; omega
      have e2 : (x.op == 2) = false := by rw [beq_eq_false_iff_ne]; have := HC.out; omega
      have e9 : (x.op == 9) = false := by rw [beq_eq_false_iff_ne]; have := HC.out; omega
      have f1 : (x.op != 1) = true := by rw [bne_iff_ne]; have := HC.out; omega
      have f2 : (x.op != 2) = true := by rw [bne_iff_ne]; have := HC.out; omega
      by_cases a1 : x.op < 1
      · skip
        have hqf : q = false := by rw [← HQ.out, formed_not (fun hh => by obtain ⟨o1, o2, o3, o4, o5, o6, o7⟩ := head_facts hh; omega)]
        subst hqf
        go_enter Tryd.func57, Tryd.ntmps57
        go_wp2_with fail
        go_ret
        exact ⟨rfl, bel_alloc (Below.refl _ _)⟩
      by_cases a2 : 11 < x.op
      · skip
        have hqf : q = false := by rw [← HQ.out, formed_not (fun hh => by obtain ⟨o1, o2, o3, o4, o5, o6, o7⟩ := head_facts hh; omega)]
        subst hqf
        go_enter Tryd.func57, Tryd.ntmps57
        go_wp2_with fail
        go_ret
        exact ⟨rfl, bel_alloc (Below.refl _ _)⟩
      by_cases a3 : x.kids.toList.length = 2
      case neg =>
        have b3 : ((x.kids.toList.length : Int) != 2) = true := by rw [bne_iff_ne]; omega
        have HA3 := Lib.hid a3
        clear a3
        have hqf : q = false := by rw [← HQ.out, formed_not (fun hh => by obtain ⟨o1, o2, o3, o4, o5, o6, o7⟩ := head_facts hh; rw [takesP, if_neg (by have := HC.out; omega), if_neg (by have := HC.out; omega)] at o3; exact HA3.out o3)]
        subst hqf
        go_enter Tryd.func57, Tryd.ntmps57
        go_wp2_with fail
        go_ret
        exact ⟨rfl, bel_alloc (Below.refl _ _)⟩
      have b3 : ((x.kids.toList.length : Int) != 2) = false := by rw [bne_eq_false_iff_eq]; omega
      have HP3 := Lib.hid a3
      clear a3
      by_cases a4 : x.n < -1099511627776
      · skip
        have hqf : q = false := by rw [← HQ.out, formed_not (fun hh => by obtain ⟨o1, o2, o3, o4, o5, o6, o7⟩ := head_facts hh; omega)]
        subst hqf
        go_enter Tryd.func57, Tryd.ntmps57
        go_wp2_with fail
        go_ret
        exact ⟨rfl, bel_alloc (Below.refl _ _)⟩
      by_cases a5 : 1099511627776 < x.n
      · skip
        have hqf : q = false := by rw [← HQ.out, formed_not (fun hh => by obtain ⟨o1, o2, o3, o4, o5, o6, o7⟩ := head_facts hh; omega)]
        subst hqf
        go_enter Tryd.func57, Tryd.ntmps57
        go_wp2_with fail
        go_ret
        exact ⟨rfl, bel_alloc (Below.refl _ _)⟩
      have HP4 := Lib.hid a4
      have HP5 := Lib.hid a5
      have HP1 := Lib.hid a1
      have HP2 := Lib.hid a2
      by_cases a6 : x.n = 0
      case neg =>
        have b6 : (x.n != 0) = true := by rw [bne_iff_ne]; exact a6
        have HA6 := Lib.hid a6
        clear a6
        have hqf : q = false := by rw [← HQ.out, formed_not (fun hh => by obtain ⟨o1, o2, o3, o4, o5, o6, o7⟩ := head_facts hh; rcases o6 with h | h; exact HA6.out h; have := HC.out; omega)]
        subst hqf
        go_enter Tryd.func57, Tryd.ntmps57
        go_wp2_with fail
        go_ret
        exact ⟨rfl, bel_alloc (Below.refl _ _)⟩
      have b6 : (x.n != 0) = false := by rw [bne_eq_false_iff_eq]; exact a6
      have HP6 := Lib.hid (show x.n = 0 ∨ x.op = 1 from .inl a6)
      clear a6
      by_cases a7 : x.name = []
      case neg =>
        have b7 : (str x.name).toList.isEmpty = false := by rw [HTL.out]; cases hh : x.name with | nil => exact absurd hh a7 | cons a r => rfl
        have HA7 := Lib.hid a7
        clear a7
        have hqf : q = false := by rw [← HQ.out, formed_not (fun hh => by obtain ⟨o1, o2, o3, o4, o5, o6, o7⟩ := head_facts hh; rw [if_neg (by have := HC.out; omega)] at o7; exact HA7.out o7)]
        subst hqf
        go_enter Tryd.func57, Tryd.ntmps57
        go_wp2_with fail
        go_ret
        exact ⟨rfl, bel_alloc (Below.refl _ _)⟩
      have b7 : (str x.name).toList.isEmpty = true := by rw [HTL.out, a7]; rfl
      have HP7 := Lib.hid (show (if x.op = 2 then namedP x.name = true else x.name = []) by rw [if_neg (by have := HC.out; omega)]; exact a7)
      clear a7
      have HF := Lib.hid (show (x.kids.toList.drop 0).all formedE = q by rw [List.drop_zero, ← HQ.out]; exact (formed_all (head_mk (by have := HP1.out; omega) (by have := HP2.out; omega) (by rw [takesP, if_neg (by have := HC.out; omega), if_neg (by have := HC.out; omega)]; exact HP3.out) (by have := HP4.out; omega) (by have := HP5.out; omega) HP6.out HP7.out)).symm)
      clear HP1 HP2 HP4 HP5 HP6 HP7
      have hB := bel_alloc (ob := .cells #[.int .i64 x.op, .int .i64 x.n, .string (str x.name), .slice A x.kids.toList.length c] 24) (Below.refl w.heap.size w)
      have hR1 := heap_alloc_last w (.cells #[.int .i64 x.op, .int .i64 x.n, .string (str x.name), .slice A x.kids.toList.length c] 24)
      go_enter Tryd.func57, Tryd.ntmps57
      go_wp2_with fail
      obtain ⟨n0, hn0⟩ : ∃ n, w.heap.size = n := ⟨_, rfl⟩
      obtain ⟨W0, hW0⟩ : ∃ W, w.alloc (.cells #[.int .i64 x.op, .int .i64 x.n, .string (str x.name), .slice A x.kids.toList.length c] 24) = W := ⟨_, rfl⟩
      rw [hW0] at hB hR1 ⊢
      have HRA0 := Lib.hid (HRD.out.next hB)
      have HB := Lib.hid hB
      rw [hn0] at hR1 ⊢
      have HR1 := Lib.hid hR1
      clear hB hR1 hW0 hn0
      go_loopw [4] (fun i wr => ∃ k : Nat, k ≤ x.kids.toList.length ∧ i = .int .i64 k ∧ (x.kids.toList.drop k).all formedE = q ∧ Below W0.heap.size W0 wr) (fun i _ => x.kids.toList.length - (intOf i).toNat)
      case atStart => exact ⟨0, by omega, rfl, HF.out, Below.refl _ _⟩
      case round =>
        obtain ⟨k, hk, rfl, hq0, hb⟩ := hrel
        have HB0 := Lib.hid hb
        have HFK := Lib.hid hq0
        have hsz := hb.size
        have r1 : wr.cell? ⟨n0, 3, none⟩ = some (.slice A x.kids.toList.length c) := (hb.cell (p := ⟨n0, 3, none⟩) (Array.getElem?_eq_some_iff.1 HR1.out).1).trans (cell_of_box HR1.out rfl)
        clear hb hq0
        by_cases hlt : k < x.kids.toList.length
        · have hx : x.kids.toList[k]? = some x.kids.toList[k] := List.getElem?_eq_getElem hlt
          have hdr := List.drop_eq_getElem_cons hlt
          obtain ⟨y, hye⟩ : ∃ y, x.kids.toList[k] = y := ⟨_, rfl⟩
          rw [hye] at hx hdr
          have hym := List.mem_of_getElem? hx
          have HSZ := Lib.hid (kids_size hym)
          have HNY := Lib.hid (nm_mem HNM.out.2 y hym)
          obtain ⟨m, hm⟩ : ∃ m, formedE y = m := ⟨_, rfl⟩
          have HAL := Lib.hid (show (m && (x.kids.toList.drop (k + 1)).all formedE) = q by rw [← HFK.out, hdr, List.all_cons, hm])
          have HME := Lib.hid hm
          obtain ⟨b, off, A1, c1, rfl, hS, hyr, hg⟩ := (HRA0.out.next HB0.out).at_ hx
          have HG := Lib.hid hg
          have HY := Lib.hid hyr
          clear hx hye hym hyr hg hdr hm
          go_wp2_with (first
            | ((with_reducible refine ex_load b (off + k * 4) y (.slice A1 y.kids.toList.length c1) ?hx HG.out ?_); (case hx => rfl)))
          refine (HI.out y (by have := HSZ.out; omega) HNY.out A1 c1 _ HY.out).mono ?_
          rintro e w2 ⟨he, hb2⟩
          rw [HME.out] at he
          subst he
          have HB2 := Lib.hid (bel_call HB0.out hb2)
          clear hb2 r1
          cases m with
          | true =>
            have HAN := Lib.hid (show (x.kids.toList.drop (k + 1)).all formedE = q by rw [← HAL.out, Bool.true_and])
            go_wp2_with fail
            exact ⟨⟨k + 1, by omega, by go_num, HAN.out, HB2.out⟩, by simp [intOf]; omega⟩
          | false =>
            have hqf : q = false := by rw [← HAL.out, Bool.false_and]
            subst hqf
            go_wp2_with fail
            go_ret
            exact ⟨rfl, bel_call HB.out HB2.out⟩
        · have hqt : q = true := by rw [← HFK.out, List.drop_eq_nil_of_le (by omega)]; rfl
          subst hqt
          clear HFK
          go_wp2_with fail
          go_ret
          exact ⟨rfl, bel_call HB.out HB0.out⟩

end Go.Proofs.YtkalkglllgebkaaDoor

namespace Go.Proofs.YtkalkglllgebkaaDoor
open Go.RowKit Saw Go.Sort

theorem dec_lenN (u : Nat) (h : u ≤ 9223372036854775807) : (Lib.decDigits u).length ≤ 21 := by
  have := Lib.itoa_length_le (u : Int) (by omega) (by omega)
  rw [Lib.itoa, if_neg (by omega), Int.toNat_natCast] at this
  exact this
theorem natSmall_any (u : Nat) (hu : u < 10) (w : World) : Calls Tryd.prog 72 #[.int .u64 u] w fun e w' => e = .returned (.string (str (Lib.decDigits u))) ∧ w = w' := by
  rw [Lib.decDigits_one hu]
  obtain rfl | rfl | rfl | rfl | rfl | rfl | rfl | rfl | rfl | rfl : u = 0 ∨ u = 1 ∨ u = 2 ∨ u = 3 ∨ u = 4 ∨ u = 5 ∨ u = 6 ∨ u = 7 ∨ u = 8 ∨ u = 9 := by omega
  all_goals
    go_enter Tryd.func72, Tryd.ntmps72
    go_wp2_with fail
    go_ret
    exact ⟨rfl, rfl⟩
set_option maxHeartbeats 1000000 in
theorem natural_any : ∀ (N u : Nat), u ≤ N → u ≤ 9223372036854775807 → ∀ (w : World), Calls Tryd.prog 72 #[.int .u64 u] w fun e w' => e = .returned (.string (str (Lib.decDigits u))) ∧ w = w' := by
  intro N
  induction N with
  | zero => intro u h _ w; exact natSmall_any u (by omega) w
  | succ N ih =>
    intro u hu hm w
    by_cases hs : u < 10
    · exact natSmall_any u hs w
    · have hnl : ¬ (u : Int) < 10 := by omega
      have IH := Lib.hid (ih (u / 10) (by omega) (by omega))
      have IS := Lib.hid (natSmall_any (u % 10) (Nat.mod_lt _ (by decide)))
      have HD := Lib.hid (show Lib.decDigits u = Lib.decDigits (u / 10) ++ [UInt8.ofNat (48 + u % 10)] by rw [Lib.decDigits, dif_neg hs])
      have HM := Lib.hid (show Lib.decDigits (u % 10) = [UInt8.ofNat (48 + u % 10)] from Lib.decDigits_one (Nat.mod_lt _ (by decide)))
      have hl := dec_lenN (u / 10) (by omega)
      obtain ⟨s, hs'⟩ : ∃ s, Lib.decDigits (u / 10) = s := ⟨_, rfl⟩
      obtain ⟨d, hd⟩ : ∃ d, UInt8.ofNat (48 + u % 10) = d := ⟨_, rfl⟩
      rw [hs'] at hl HD IH
      rw [hd] at HD HM
      rw [HM.out] at IS
      have hz : (str s).size ≤ 21 := by rw [size_str]; exact hl
      have hz1 : (str [d]).size = 1 := rfl
      clear ih hs' hd hl hs
      go_enter Tryd.func72, Tryd.ntmps72
      go_wp2_with fail
      refine (IH.out _).mono ?_
      rintro e w1 ⟨rfl, rfl⟩
      go_wp2_with fail
      refine (IS.out _).mono ?_
      rintro e w1 ⟨rfl, rfl⟩
      go_wp2_with fail
      go_ret
      refine ⟨?_, rfl⟩
      rw [HD.out, ← str_append]
      rfl
set_option maxHeartbeats 1000000 in
theorem digits_any (n : Int) (h0 : -9223372036854775807 ≤ n) (h1 : n ≤ 9223372036854775807) (w : World) : Calls Tryd.prog 46 #[.int .i64 n] w fun e w' => e = .returned (.string (str (Lib.itoa n))) ∧ w = w' := by
  by_cases hn : n < 0
  · obtain ⟨u, rfl⟩ : ∃ u : Nat, n = -(u : Int) := ⟨n.natAbs, by omega⟩
    have IH := Lib.hid (natural_any u u (Nat.le_refl _) (by omega))
    have HD := Lib.hid (show Lib.itoa (-(u : Int)) = 45 :: Lib.decDigits u by rw [Lib.itoa, if_pos hn, Int.natAbs_neg, Int.natAbs_natCast])
    have hl := dec_lenN u (by omega)
    obtain ⟨s, hs'⟩ : ∃ s, Lib.decDigits u = s := ⟨_, rfl⟩
    rw [hs'] at hl HD IH
    have hz : (str s).size ≤ 21 := by rw [size_str]; exact hl
    clear hs' hl
    go_enter Tryd.func46, Tryd.ntmps46
    go_wp2_with fail
    rw [show (-(-(u : Int) + 1) + 1) = (u : Int) by omega]
    refine (IH.out _).mono ?_
    rintro e w1 ⟨rfl, rfl⟩
    go_wp2_with fail
    go_ret
    refine ⟨?_, rfl⟩
    rw [HD.out]
    exact congrArg (fun t => Ending.returned (.string t)) (str_append [45] s)
  · obtain ⟨u, rfl⟩ := Int.eq_ofNat_of_zero_le (Int.not_lt.1 hn)
    have IH := Lib.hid (natural_any u u (Nat.le_refl _) (by omega))
    have HD := Lib.hid (show Lib.itoa (u : Int) = Lib.decDigits u by rw [Lib.itoa, if_neg hn, Int.toNat_natCast])
    rw [HD.out]
    have hn' : ¬ (u : Int) < 0 := by omega
    go_enter Tryd.func46, Tryd.ntmps46
    go_wp2_with fail
    refine (IH.out _).mono ?_
    rintro e w1 ⟨rfl, rfl⟩
    go_wp2_with fail
    go_ret
    exact ⟨rfl, rfl⟩

end Go.Proofs.YtkalkglllgebkaaDoor

namespace Go.Proofs.YtkalkglllgebkaaDoor
open Go.RowKit Saw Go.Sort

theorem strength_any (op : Int) (w : World) : Calls Tryd.prog 60 #[.int .i64 op] w fun e w' => e = .returned (.int .i64 (ownP op)) ∧ w = w' := by
  have hor : op = 11 ∨ op = 10 ∨ op = 9 ∨ op = 6 ∨ op = 7 ∨ op = 8 ∨ op = 3 ∨ op = 4 ∨ op = 5 ∨ (op ≠ 11 ∧ op ≠ 10 ∧ op ≠ 9 ∧ op ≠ 6 ∧ op ≠ 7 ∧ op ≠ 8 ∧ op ≠ 3 ∧ op ≠ 4 ∧ op ≠ 5) := by omega
  rcases hor with rfl | rfl | rfl | rfl | rfl | rfl | rfl | rfl | rfl | ⟨h1, h2, h3, h4, h5, h6, h7, h8, h9⟩
  iterate 9 (· go_enter Tryd.func60, Tryd.ntmps60; go_wp2_with fail; go_ret; exact ⟨rfl, rfl⟩)
  have he : ownP op = 7 := by unfold ownP; rw [if_neg h1, if_neg h2, if_neg h3, if_neg (by omega), if_neg (by omega), if_neg h9]
  rw [he]
  have e1 : (op == 11) = false := by rw [beq_eq_false_iff_ne]; exact h1
  have e2 : (op == 10) = false := by rw [beq_eq_false_iff_ne]; exact h2
  have e3 : (op == 9) = false := by rw [beq_eq_false_iff_ne]; exact h3
  have e4 : (op == 6) = false := by rw [beq_eq_false_iff_ne]; exact h4
  have e5 : (op == 7) = false := by rw [beq_eq_false_iff_ne]; exact h5
  have e6 : (op == 8) = false := by rw [beq_eq_false_iff_ne]; exact h6
  have e7 : (op == 3) = false := by rw [beq_eq_false_iff_ne]; exact h7
  have e8 : (op == 4) = false := by rw [beq_eq_false_iff_ne]; exact h8
  have e9 : (op == 5) = false := by rw [beq_eq_false_iff_ne]; exact h9
  clear h1 h2 h3 h4 h5 h6 h7 h8 h9 he
  go_enter Tryd.func60, Tryd.ntmps60
  go_wp2_with fail
  go_ret
  exact ⟨rfl, rfl⟩
theorem rsign_any (o : Nat) (ho : (o : Int) = 3 ∨ (o : Int) = 4 ∨ (o : Int) = 5 ∨ (o : Int) = 6 ∨ (o : Int) = 7 ∨ (o : Int) = 8 ∨ (o : Int) = 10 ∨ (o : Int) = 11) (w : World) : Calls Tryd.prog 61 #[.int .i64 o] w fun e w' => e = .returned (.string (str (signP o))) ∧ w = w' := by
  obtain rfl | rfl | rfl | rfl | rfl | rfl | rfl | rfl : o = 3 ∨ o = 4 ∨ o = 5 ∨ o = 6 ∨ o = 7 ∨ o = 8 ∨ o = 10 ∨ o = 11 := by omega
  all_goals
    go_enter Tryd.func61, Tryd.ntmps61
    go_wp2_with fail
    go_ret
    exact ⟨rfl, rfl⟩

def RTextAt (x : Ex) : Prop := ∀ (A : Option Addr) (c : Nat) (w : World), RdFo w (Iv 0 w.heap.size) (.slice A x.kids.toList.length c) x.kids →
    Calls Tryd.prog 34 #[.agg #[.int .i64 x.op, .int .i64 x.n, .string (str x.name), .slice A x.kids.toList.length c]] w (StrB (txE x).2 w)
def RWithinAt (x : Ex) : Prop := ∀ (least : Int) (A : Option Addr) (c : Nat) (w : World), RdFo w (Iv 0 w.heap.size) (.slice A x.kids.toList.length c) x.kids →
    Calls Tryd.prog 59 #[.agg #[.int .i64 x.op, .int .i64 x.n, .string (str x.name), .slice A x.kids.toList.length c], .int .i64 least] w (StrB (within (txE x) least) w)
set_option maxRecDepth 100000 in
set_option maxHeartbeats 1000000 in
theorem rwithin_of (x : Ex) (hlen : (txE x).2.length ≤ 3831) (ih : RTextAt x) : RWithinAt x := by
  intro least A c w hrd
  have HRD := Lib.hid hrd
  have HI := Lib.hid ih
  clear ih hrd
  obtain ⟨t, ht⟩ : ∃ t, (txE x).2 = t := ⟨_, rfl⟩
  have hw : within (txE x) least = if ownP x.op < least then [40] ++ t ++ [41] else t := by rw [within, ht]; rfl
  have HT := Lib.hid ht
  have HWW := Lib.hid hw
  rw [ht] at hlen
  have hsz : (str t).size ≤ 3831 := by rw [size_str]; exact hlen
  clear hw ht hlen
  have hB := bel_alloc (ob := .cells #[.int .i64 x.op, .int .i64 x.n, .string (str x.name), .slice A x.kids.toList.length c] 24) (Below.refl w.heap.size w)
  have hR1 := heap_alloc_last w (.cells #[.int .i64 x.op, .int .i64 x.n, .string (str x.name), .slice A x.kids.toList.length c] 24)
  go_enter Tryd.func59, Tryd.ntmps59
  go_upto_region 1 with fail
  obtain ⟨n0, hn0⟩ : ∃ n, w.heap.size = n := ⟨_, rfl⟩
  obtain ⟨W0, hW0⟩ : ∃ W, w.alloc (.cells #[.int .i64 x.op, .int .i64 x.n, .string (str x.name), .slice A x.kids.toList.length c] 24) = W := ⟨_, rfl⟩
  rw [hW0] at hB hR1 ⊢
  have HX0 := Lib.hid (HRD.out.next hB)
  have HB := Lib.hid hB
  rw [hn0] at hR1 ⊢
  have HG1 := Lib.hid (show W0.rangeAt n0 0 (exCells x (.slice A x.kids.toList.length c)) from rangeAt_block hR1)
  have r0 : W0.cell? ⟨n0, 0, none⟩ = some (.int .i64 x.op) := cell_of_box hR1 rfl
  clear hB hR1 hW0 hn0 HRD
  go_wp2_with fail
  refine (strength_any x.op W0).mono ?_
  rintro e w1 ⟨rfl, rfl⟩
  clear r0
  by_cases hlow : ownP x.op < least
  · have HW2 := Lib.hid (HWW.out.trans (if_pos hlow))
    go_wp2_with (first
      | ((with_reducible refine ex_load n0 0 x (.slice A x.kids.toList.length c) ?hx HG1.out ?_); (case hx => rfl)))
    refine (HI.out A c W0 HX0.out).mono ?_
    rintro e w2 ⟨he, hb⟩
    rw [HT.out] at he
    subst he
    have HB2 := Lib.hid (bel_call HB.out hb)
    clear hb
    go_wp2_with fail
    go_ret
    refine ⟨str_fin ?_, HB2.out⟩
    rw [HW2.out]
    simp only [bts_append, bts_str]
    rfl
  · have HW2 := Lib.hid (HWW.out.trans (if_neg hlow))
    go_wp2_with (first
      | ((with_reducible refine ex_load n0 0 x (.slice A x.kids.toList.length c) ?hx HG1.out ?_); (case hx => rfl)))
    refine (HI.out A c W0 HX0.out).mono ?_
    rintro e w2 ⟨he, hb⟩
    rw [HT.out] at he
    subst he
    have HB2 := Lib.hid (bel_call HB.out hb)
    clear hb
    go_wp2_with fail
    go_ret
    exact ⟨by rw [HW2.out]; rfl, HB2.out⟩

set_option maxRecDepth 100000 in
set_option maxHeartbeats 1000000 in
theorem rtext_num (x : Ex) (h1 : x.op = 1) (h4 : -1099511627776 ≤ x.n) (h5 : x.n ≤ 1099511627776) : RTextAt x := by
  intro A c w hrd
  rw [txE_num h1, h1]
  clear hrd
  have hB := bel_alloc (ob := .cells #[.int .i64 1, .int .i64 x.n, .string (str x.name), .slice A x.kids.toList.length c] 24) (Below.refl w.heap.size w)
  have HD := Lib.hid (digits_any x.n (by omega) (by omega))
  have HB := Lib.hid hB
  clear hB h4 h5 h1
  go_enter Tryd.func34, Tryd.ntmps34
  go_wp2_with fail
  refine (HD.out _).mono ?_
  rintro e w1 ⟨rfl, rfl⟩
  go_wp2_with fail
  go_ret
  exact ⟨rfl, HB.out⟩
set_option maxRecDepth 100000 in
set_option maxHeartbeats 1000000 in
theorem rtext_name (x : Ex) (h1 : x.op = 2) : RTextAt x := by
  intro A c w hrd
  rw [txE_name h1, h1]
  clear hrd h1
  go_enter Tryd.func34, Tryd.ntmps34
  go_wp2_with fail
  go_ret
  exact ⟨rfl, bel_alloc (Below.refl _ _)⟩
set_option maxRecDepth 100000 in
set_option maxHeartbeats 1000000 in
theorem rtext_not (a : Ex) (hla : (txE a).2.length ≤ 3831) (iha : RWithinAt a) : RTextAt (one 9 a) := by
  intro A c w hrd
  obtain ⟨b0, off, A1, c1, rfl, hS1, hra, hga⟩ := hrd.at_ (i := 0) (x := a) rfl
  have hcap : 1 ≤ c := by obtain ⟨_, _, he, hc, _⟩ := hrd.form; injection he with _ _ he; have h1 : (one 9 a).kids.toList.length = 1 := rfl; omega
  rw [txE_not a]
  show Calls Tryd.prog 34 #[.agg #[.int .i64 9, .int .i64 0, .string (str []), .slice (some ⟨b0, off, none⟩) 1 c]] w (StrB (notW ++ [32] ++ within (txE a) 3) w)
  obtain ⟨t, ht⟩ : ∃ t, within (txE a) 3 = t := ⟨_, rfl⟩
  have hsz : (str t).size ≤ 3833 := by rw [size_str, ← ht]; have := within_len a 3; omega
  rw [ht]
  have HT := Lib.hid ht
  have hB := bel_alloc (ob := .cells #[.int .i64 9, .int .i64 0, .string (str []), .slice (some ⟨b0, off, none⟩) 1 c] 24) (Below.refl w.heap.size w)
  have hR1 := heap_alloc_last w (.cells #[.int .i64 9, .int .i64 0, .string (str []), .slice (some ⟨b0, off, none⟩) 1 c] 24)
  have HRA := Lib.hid hra
  have hbsz : b0 < w.heap.size := hS1.2
  rw [show off + 0 * 4 = off by omega] at hga
  have HGA := Lib.hid hga
  have HIA := Lib.hid iha
  clear hrd hra hga hS1 ht iha hla
  go_enter Tryd.func34, Tryd.ntmps34
  go_upto_region 1 with fail
  obtain ⟨n0, hn0⟩ : ∃ n, w.heap.size = n := ⟨_, rfl⟩
  obtain ⟨W0, hW0⟩ : ∃ W, w.alloc (.cells #[.int .i64 9, .int .i64 0, .string (str []), .slice (some ⟨b0, off, none⟩) 1 c] 24) = W := ⟨_, rfl⟩
  rw [hW0] at hB hR1 ⊢
  have HX0 := Lib.hid (HRA.out.next hB)
  have HB := Lib.hid hB
  have HGA1 := Lib.hid (rangeAt_below hB hbsz HGA.out)
  rw [hn0] at hR1 ⊢
  have r0 : W0.cell? ⟨n0, 0, none⟩ = some (.int .i64 9) := cell_of_box hR1 rfl
  have r3 : W0.cell? ⟨n0, 3, none⟩ = some (.slice (some ⟨b0, off, none⟩) 1 c) := cell_of_box hR1 rfl
  clear hB hR1 hW0 hn0 HRA HGA
  go_wp2_with (first
    | ((with_reducible refine ex_load b0 off a (.slice A1 a.kids.toList.length c1) ?hx HGA1.out ?_); (case hx => rfl)))
  refine (HIA.out 3 A1 c1 W0 HX0.out).mono ?_
  rintro e w2 ⟨he, hb⟩
  rw [HT.out] at he
  subst he
  have HB2 := Lib.hid (bel_call HB.out hb)
  clear hb r0 r3
  go_wp2_with fail
  go_ret
  refine ⟨str_fin ?_, HB2.out⟩
  simp only [bts_append, bts_str]
  rfl

theorem own_range (o : Int) : 1 ≤ ownP o ∧ ownP o ≤ 7 := by
  unfold ownP
  repeat (split <;> try decide)
set_option maxRecDepth 100000 in
set_option maxHeartbeats 2000000 in
theorem rtext_two (o : Nat) (a b : Ex) (ho : (o : Int) = 3 ∨ (o : Int) = 4 ∨ (o : Int) = 5 ∨ (o : Int) = 6 ∨ (o : Int) = 7 ∨ (o : Int) = 8 ∨ (o : Int) = 10 ∨ (o : Int) = 11) (hla : (txE a).2.length ≤ 3831) (hlb : (txE b).2.length ≤ 3831) (iha : RWithinAt a) (ihb : RWithinAt b) : RTextAt (two o a b) := by
  intro A c w hrd
  have htx := txE_two ho a b
  have hkl : (two o a b).kids.toList = [a, b] := rfl
  obtain ⟨b0, off, A1, c1, rfl, hS1, hra, hga⟩ := hrd.at_ (i := 0) (x := a) rfl
  obtain ⟨b0', off', A2, c2, hbe, _, hrb, hgb⟩ := hrd.at_ (i := 1) (x := b) rfl
  injection hbe with hbe
  injection hbe with hb1 hb2 _
  subst hb1 hb2
  have e1 : ((o : Int) == 1) = false := by rw [beq_eq_false_iff_ne]; omega
  have e2 : ((o : Int) == 2) = false := by rw [beq_eq_false_iff_ne]; omega
  have e9 : ((o : Int) == 9) = false := by rw [beq_eq_false_iff_ne]; omega
  have hcap : 2 ≤ c := by obtain ⟨_, _, he, hc, _⟩ := hrd.form; injection he with _ _ he; rw [hkl] at hc; simp only [List.length_cons, List.length_nil] at hc; omega
  have HO := Lib.hid ho
  have HLEN := Lib.hid (And.intro hla hlb)
  have HTX := Lib.hid htx
  have HIA := Lib.hid iha
  have HIB := Lib.hid ihb
  have HRA := Lib.hid hra
  have HRB := Lib.hid hrb
  have HGA := Lib.hid hga
  have HGB := Lib.hid hgb
  have hbsz : b0 < w.heap.size := hS1.2
  show Calls Tryd.prog 34 #[.agg #[.int .i64 o, .int .i64 0, .string (str []), .slice (some ⟨b0, off, none⟩) 2 c]] w (StrB (txE (two o a b)).2 w)
  clear hla hlb htx iha ihb hra hrb hga hgb hrd hkl hS1 ho
  have hB := bel_alloc (ob := .cells #[.int .i64 o, .int .i64 0, .string (str []), .slice (some ⟨b0, off, none⟩) 2 c] 24) (Below.refl w.heap.size w)
  have hR1 := heap_alloc_last w (.cells #[.int .i64 o, .int .i64 0, .string (str []), .slice (some ⟨b0, off, none⟩) 2 c] 24)
  go_enter Tryd.func34, Tryd.ntmps34
  go_upto_region 1 with fail
  obtain ⟨N, hN⟩ : ∃ N, w.heap.size = N := ⟨_, rfl⟩
  obtain ⟨W0, hW0⟩ : ∃ W, w.alloc (.cells #[.int .i64 o, .int .i64 0, .string (str []), .slice (some ⟨b0, off, none⟩) 2 c] 24) = W := ⟨_, rfl⟩
  rw [hW0] at hB hR1 ⊢
  rw [hN] at hR1 hbsz ⊢
  have hA1 := HRA.out.next hB
  have hB1 := HRB.out.next hB
  have hGA := rangeAt_below hB (by rw [hN]; exact hbsz) HGA.out
  have hGB := rangeAt_below hB (by rw [hN]; exact hbsz) HGB.out
  rw [show off + 0 * 4 = off by omega] at hGA
  rw [show off + 1 * 4 = off + 4 by omega] at hGB
  have HA0 := Lib.hid hA1
  have HB0 := Lib.hid hB1
  have HGA0 := Lib.hid hGA
  have HGB0 := Lib.hid hGB
  have HBW := Lib.hid hB
  have HR1 := Lib.hid hR1
  have r0 : W0.cell? ⟨N, 0, none⟩ = some (.int .i64 o) := cell_of_box hR1 rfl
  have y0 : ∀ d os, (grow (redrawn W0 d) os).cell? ⟨N, 0, none⟩ = some (.int .i64 o) := fun d os => cell_regrown r0 d os
  obtain ⟨p, hp⟩ : ∃ p, ownP (o : Int) = p := ⟨_, rfl⟩
  have hpr := own_range o
  rw [hp] at hpr
  obtain ⟨hp1, hp7⟩ := hpr
  have D0 : Hid (∀ d os, Calls Tryd.prog 60 #[.int .i64 o] (grow (redrawn W0 d) os) fun e w' => e = .returned (.int .i64 p) ∧ Below (grow (redrawn W0 d) os).heap.size (grow (redrawn W0 d) os) w') := fun d os => by rw [← hp]; exact (strength_any o _).mono fun e w' ⟨he, hw⟩ => ⟨he, hw ▸ Below.refl _ _⟩
  have HP := Lib.hid hp
  clear hA1 hB1 hGA hGB hB hR1 hW0 hp HRA HRB HGA HGB
  go_wp2_with fail
  refine wp_region_quiet_below (by kernel_rfl) (by kernel_rfl) ?_
  repeat (first
    | (open Go.BigFrame in go_big_quiet_step ((with_reducible exact Calls.regrown_of (D0.out _ _))))
    | (quiet_step ((with_reducible exact Calls.regrown_of (D0.out _ _)))))
  refine wpQuiet_nil ?_
  rintro W1 ⟨z6, hw6⟩
  have hb6 : Below W0.heap.size W0 W1 := by rw [hw6]; exact below_regrown _ _ _
  have HB := Lib.hid (bel_call HBW.out hb6)
  have HRA1 := Lib.hid (HA0.out.next hb6)
  have HRB1 := Lib.hid (HB0.out.next hb6)
  have hlt0 : b0 < W0.heap.size := Nat.lt_of_lt_of_le (by rw [hN]; exact hbsz) HBW.out.size
  have HGA1 := Lib.hid (rangeAt_below hb6 hlt0 HGA0.out)
  have HGB1 := Lib.hid (rangeAt_below hb6 hlt0 HGB0.out)
  have hb1 : b0 < W1.heap.size := Nat.lt_of_lt_of_le hlt0 hb6.size
  have hR2 := (hb6.block _ (Array.getElem?_eq_some_iff.1 HR1.out).1).trans HR1.out
  clear hw6 hb6 r0 y0 hlt0 HBW HA0 HB0 HGA0 HGB0 HR1 D0 hbsz
  have y0 : ∀ d os, (grow (redrawn W1 d) os).cell? ⟨N, 0, none⟩ = some (.int .i64 o) := fun d os => cell_regrown (cell_of_box hR2 rfl) d os
  have y3 : ∀ d os, (grow (redrawn W1 d) os).cell? ⟨N, 3, none⟩ = some (.slice (some ⟨b0, off, none⟩) 2 c) := fun d os => cell_regrown (cell_of_box hR2 rfl) d os
  clear hR2
  by_cases h4 : p = 4
  · have b4 : (p == 4) = true := by rw [beq_iff_eq]; exact h4
    have H4 := Lib.hid h4
    clear h4
    have hF : firstP o = 5 := by rw [firstP, HP.out, if_pos H4.out]
    have hS : secondP o = 5 := by rw [secondP, HP.out, if_pos H4.out]
    obtain ⟨s1, hs1⟩ : ∃ s1, str (within (txE a) (5)) = s1 := ⟨_, rfl⟩
    obtain ⟨s2, hs2⟩ : ∃ s2, str (within (txE b) (5)) = s2 := ⟨_, rfl⟩
    obtain ⟨tt, htt⟩ : ∃ tt, str (signP o) = tt := ⟨_, rfl⟩
    have D1 : Hid (∀ d os, Calls Tryd.prog 59 #[.agg (exCells a (.slice A1 a.kids.toList.length c1)).toArray, .int .i64 (5)] (grow (redrawn W1 d) os) fun e w' => e = .returned (.string s1) ∧ Below (grow (redrawn W1 d) os).heap.size (grow (redrawn W1 d) os) w') := fun d os => by rw [← hs1]; exact HIA.out _ A1 c1 _ (regrown_rd HRA1.out d os)
    have D2 : Hid (∀ d os, Calls Tryd.prog 59 #[.agg (exCells b (.slice A2 b.kids.toList.length c2)).toArray, .int .i64 (5)] (grow (redrawn W1 d) os) fun e w' => e = .returned (.string s2) ∧ Below (grow (redrawn W1 d) os).heap.size (grow (redrawn W1 d) os) w') := fun d os => by rw [← hs2]; exact HIB.out _ A2 c2 _ (regrown_rd HRB1.out d os)
    have D3 : Hid (∀ d os, Calls Tryd.prog 61 #[.int .i64 o] (grow (redrawn W1 d) os) fun e w' => e = .returned (.string tt) ∧ Below (grow (redrawn W1 d) os).heap.size (grow (redrawn W1 d) os) w') := fun d os => by rw [← htt]; exact (rsign_any o HO.out _).mono fun e w' ⟨he, hw⟩ => ⟨he, hw ▸ Below.refl _ _⟩
    have q1 : s1.size ≤ 3833 := by rw [← hs1, size_str]; have := within_len a (5); have := HLEN.out; omega
    have q2 : s2.size ≤ 3833 := by rw [← hs2, size_str]; have := within_len b (5); have := HLEN.out; omega
    have q3 : tt.size ≤ 3 := by rw [← htt, size_str]; exact sign_len o
    have HRES := Lib.hid (show (txE (two o a b)).2 = bts s1 ++ [32] ++ bts tt ++ [32] ++ bts s2 by rw [HTX.out, ← hs1, ← hs2, ← htt, bts_str, bts_str, bts_str, hF, hS])
    clear hs1 hs2 htt hF hS
    have g1 : ¬ 9223372036854775807 < s1.size + 1 := by omega
    have g2 : ¬ 9223372036854775807 < s1.size + 1 + tt.size := by omega
    have g3 : ¬ 9223372036854775807 < s1.size + 1 + tt.size + 1 := by omega
    have g4 : ¬ 9223372036854775807 < s1.size + 1 + tt.size + 1 + s2.size := by omega
    go_wp2_with fail
    refine wp_region_quiet_below (by kernel_rfl) (by kernel_rfl) ?_
    repeat (first
      | ((with_reducible refine quiet_load b0 off (exCells a (.slice A1 a.kids.toList.length c1)) ?hw ?hx HGA1.out hb1 Tryd.underlying24 ?hd ?hi ?_); (case hi => exact ex_info); (case hw => kernel_rfl); (case hx => rfl); (case hd => rfl))
      | ((with_reducible refine quiet_load b0 (off + 4) (exCells b (.slice A2 b.kids.toList.length c2)) ?hw ?hx HGB1.out hb1 Tryd.underlying24 ?hd ?hi ?_); (case hi => exact ex_info); (case hw => kernel_rfl); (case hx => rfl); (case hd => rfl))
      | (open Go.BigFrame in go_big_quiet_step ((first | (with_reducible exact Calls.regrown_of (D1.out _ _)) | (with_reducible exact Calls.regrown_of (D2.out _ _)) | (with_reducible exact Calls.regrown_of (D3.out _ _)))))
      | (quiet_step ((first | (with_reducible exact Calls.regrown_of (D1.out _ _)) | (with_reducible exact Calls.regrown_of (D2.out _ _)) | (with_reducible exact Calls.regrown_of (D3.out _ _))))))
    refine wpQuiet_nil ?_
    rintro w6 ⟨z6, hw6⟩
    have HB6 := Lib.hid (HB.out.trans ((show Below W1.heap.size W1 w6 by rw [hw6]; exact below_regrown _ _ _).mono HB.out.size))
    clear hw6 y0 y3
    go_wp2_with fail
    go_ret
    refine ⟨str_fin ?_, HB6.out⟩
    rw [HRES.out]
    simp only [bts_append]
    rfl
  · have b4 : (p == 4) = false := by rw [beq_eq_false_iff_ne]; exact h4
    have H4 := Lib.hid h4
    clear h4
    have hF : firstP o = p := by rw [firstP, HP.out, if_neg H4.out]
    have hS : secondP o = p + 1 := by rw [secondP, HP.out, if_neg H4.out]
    obtain ⟨s1, hs1⟩ : ∃ s1, str (within (txE a) (p)) = s1 := ⟨_, rfl⟩
    obtain ⟨s2, hs2⟩ : ∃ s2, str (within (txE b) (p + 1)) = s2 := ⟨_, rfl⟩
    obtain ⟨tt, htt⟩ : ∃ tt, str (signP o) = tt := ⟨_, rfl⟩
    have D1 : Hid (∀ d os, Calls Tryd.prog 59 #[.agg (exCells a (.slice A1 a.kids.toList.length c1)).toArray, .int .i64 (p)] (grow (redrawn W1 d) os) fun e w' => e = .returned (.string s1) ∧ Below (grow (redrawn W1 d) os).heap.size (grow (redrawn W1 d) os) w') := fun d os => by rw [← hs1]; exact HIA.out _ A1 c1 _ (regrown_rd HRA1.out d os)
    have D2 : Hid (∀ d os, Calls Tryd.prog 59 #[.agg (exCells b (.slice A2 b.kids.toList.length c2)).toArray, .int .i64 (p + 1)] (grow (redrawn W1 d) os) fun e w' => e = .returned (.string s2) ∧ Below (grow (redrawn W1 d) os).heap.size (grow (redrawn W1 d) os) w') := fun d os => by rw [← hs2]; exact HIB.out _ A2 c2 _ (regrown_rd HRB1.out d os)
    have D3 : Hid (∀ d os, Calls Tryd.prog 61 #[.int .i64 o] (grow (redrawn W1 d) os) fun e w' => e = .returned (.string tt) ∧ Below (grow (redrawn W1 d) os).heap.size (grow (redrawn W1 d) os) w') := fun d os => by rw [← htt]; exact (rsign_any o HO.out _).mono fun e w' ⟨he, hw⟩ => ⟨he, hw ▸ Below.refl _ _⟩
    have q1 : s1.size ≤ 3833 := by rw [← hs1, size_str]; have := within_len a (p); have := HLEN.out; omega
    have q2 : s2.size ≤ 3833 := by rw [← hs2, size_str]; have := within_len b (p + 1); have := HLEN.out; omega
    have q3 : tt.size ≤ 3 := by rw [← htt, size_str]; exact sign_len o
    have HRES := Lib.hid (show (txE (two o a b)).2 = bts s1 ++ [32] ++ bts tt ++ [32] ++ bts s2 by rw [HTX.out, ← hs1, ← hs2, ← htt, bts_str, bts_str, bts_str, hF, hS])
    clear hs1 hs2 htt hF hS
    have g1 : ¬ 9223372036854775807 < s1.size + 1 := by omega
    have g2 : ¬ 9223372036854775807 < s1.size + 1 + tt.size := by omega
    have g3 : ¬ 9223372036854775807 < s1.size + 1 + tt.size + 1 := by omega
    have g4 : ¬ 9223372036854775807 < s1.size + 1 + tt.size + 1 + s2.size := by omega
    go_wp2_with fail
    refine wp_region_quiet_below (by kernel_rfl) (by kernel_rfl) ?_
    repeat (first
      | ((with_reducible refine quiet_load b0 off (exCells a (.slice A1 a.kids.toList.length c1)) ?hw ?hx HGA1.out hb1 Tryd.underlying24 ?hd ?hi ?_); (case hi => exact ex_info); (case hw => kernel_rfl); (case hx => rfl); (case hd => rfl))
      | ((with_reducible refine quiet_load b0 (off + 4) (exCells b (.slice A2 b.kids.toList.length c2)) ?hw ?hx HGB1.out hb1 Tryd.underlying24 ?hd ?hi ?_); (case hi => exact ex_info); (case hw => kernel_rfl); (case hx => rfl); (case hd => rfl))
      | (open Go.BigFrame in go_big_quiet_step ((first | (with_reducible exact Calls.regrown_of (D1.out _ _)) | (with_reducible exact Calls.regrown_of (D2.out _ _)) | (with_reducible exact Calls.regrown_of (D3.out _ _)))))
      | (quiet_step ((first | (with_reducible exact Calls.regrown_of (D1.out _ _)) | (with_reducible exact Calls.regrown_of (D2.out _ _)) | (with_reducible exact Calls.regrown_of (D3.out _ _))))))
    refine wpQuiet_nil ?_
    rintro w6 ⟨z6, hw6⟩
    have HB6 := Lib.hid (HB.out.trans ((show Below W1.heap.size W1 w6 by rw [hw6]; exact below_regrown _ _ _).mono HB.out.size))
    clear hw6 y0 y3
    go_wp2_with fail
    go_ret
    refine ⟨str_fin ?_, HB6.out⟩
    rw [HRES.out]
    simp only [bts_append]
    rfl

theorem rtext_any : ∀ (N : Nat) (x : Ex), x.size ≤ N → wellP x = true → RTextAt x := by
  intro N
  induction N with
  | zero => intro x h; simp only [Ex.size] at h; omega
  | succ N ih =>
    intro x hN hwf
    rcases formed_cases (well_split hwf).1 with ⟨a1, a2, a3, a4, a5⟩ | ⟨a1, a2, a3, a4⟩ | ⟨a, a1, a2, a3⟩ | ⟨a, b, a1, a2, a3, a4⟩
    · exact rtext_num x a1 a4 a5
    · exact rtext_name x a1
    · rw [a2] at hN hwf ⊢
      have hm : a ∈ (one 9 a).kids.toList := by simp [one, Fo.toList]
      have hl := tx_len8 (well_kid hwf hm)
      exact rtext_not a hl (rwithin_of a hl (ih a (by have := kids_size hm; omega) (well_kid hwf hm)))
    · obtain ⟨o, ho⟩ : ∃ o : Nat, x.op = o := ⟨x.op.toNat, by omega⟩
      rw [ho] at a1 a2
      rw [a2] at hN hwf ⊢
      have hm : a ∈ (two o a b).kids.toList := by simp [two, Fo.toList]
      have hm' : b ∈ (two o a b).kids.toList := by simp [two, Fo.toList]
      have hl := tx_len8 (well_kid hwf hm)
      have hl' := tx_len8 (well_kid hwf hm')
      exact rtext_two o a b a1 hl hl' (rwithin_of a hl (ih a (by have := kids_size hm; omega) (well_kid hwf hm))) (rwithin_of b hl' (ih b (by have := kids_size hm'; omega) (well_kid hwf hm')))

set_option maxRecDepth 100000 in
set_option maxHeartbeats 1000000 in
theorem rwell_any (x : Ex) (hnm : NmE 1000000 x) (hD : x.depth ≤ 1000000000) (A : Option Addr) (c : Nat) (w : World) (hrd : RdFo w (Iv 0 w.heap.size) (.slice A x.kids.toList.length c) x.kids) :
    Calls Tryd.prog 33 #[.agg #[.int .i64 x.op, .int .i64 x.n, .string (str x.name), .slice A x.kids.toList.length c]] w (BoolB (wellP x) w) := by
  have HRD := Lib.hid hrd
  have HNM := Lib.hid hnm
  have HDD := Lib.hid hD
  clear hrd hnm hD
  obtain ⟨q, hq⟩ : ∃ q, formedE x = q := ⟨_, rfl⟩
  have hw : wellP x = (q && decide (x.depth ≤ 8)) := by rw [wellP, hq]
  have HW := Lib.hid hw
  have HQ := Lib.hid hq
  clear hq hw
  have hB := bel_alloc (ob := .cells #[.int .i64 x.op, .int .i64 x.n, .string (str x.name), .slice A x.kids.toList.length c] 24) (Below.refl w.heap.size w)
  have hR1 := heap_alloc_last w (.cells #[.int .i64 x.op, .int .i64 x.n, .string (str x.name), .slice A x.kids.toList.length c] 24)
  go_enter Tryd.func33, Tryd.ntmps33
  go_upto_region 1 with fail
  obtain ⟨n0, hn0⟩ : ∃ n, w.heap.size = n := ⟨_, rfl⟩
  obtain ⟨W0, hW0⟩ : ∃ W, w.alloc (.cells #[.int .i64 x.op, .int .i64 x.n, .string (str x.name), .slice A x.kids.toList.length c] 24) = W := ⟨_, rfl⟩
  rw [hW0] at hB hR1 ⊢
  have HX0 := Lib.hid (HRD.out.next hB)
  have HB := Lib.hid hB
  rw [hn0] at hR1 ⊢
  have HR1 := Lib.hid hR1
  have HG1 := Lib.hid (show W0.rangeAt n0 0 (exCells x (.slice A x.kids.toList.length c)) from rangeAt_block hR1)
  clear hB hR1 hW0 hn0 HRD
  go_wp2_with (first
    | ((with_reducible refine ex_load n0 0 x (.slice A x.kids.toList.length c) ?hx HG1.out ?_); (case hx => rfl)))
  refine (rformed_any _ x (Nat.le_refl _) HNM.out A c W0 HX0.out).mono ?_
  rintro e w1 ⟨he, hb⟩
  rw [HQ.out] at he
  subst he
  have HX1 := Lib.hid (HX0.out.next hb)
  have HB1 := Lib.hid (bel_call HB.out hb)
  have hs1 := (hb.block _ (Array.getElem?_eq_some_iff.1 HR1.out).1).trans HR1.out
  have HS1 := Lib.hid hs1
  clear hb hs1 HB HX0 HG1 HR1
  cases q with
  | false =>
    go_wp2_with fail
    go_ret
    exact ⟨by rw [HW.out]; rfl, HB1.out⟩
  | true =>
    have f0 : w1.cell? ⟨n0, 0, none⟩ = some (.int .i64 x.op) := cell_of_box HS1.out rfl
    have f1 : w1.cell? ⟨n0, 1, none⟩ = some (.int .i64 x.n) := cell_of_box HS1.out rfl
    have f2 : w1.cell? ⟨n0, 2, none⟩ = some (.string (str x.name)) := cell_of_box HS1.out rfl
    have f3 : w1.cell? ⟨n0, 3, none⟩ = some (.slice A x.kids.toList.length c) := cell_of_box HS1.out rfl
    go_wp2_with fail
    refine (rDepth_any _ x (Nat.le_refl _) HDD.out A c w1 HX1.out).mono ?_
    rintro e w2 ⟨he, hb⟩
    obtain ⟨m, hm⟩ : ∃ m, x.depth = m := ⟨_, rfl⟩
    rw [hm] at he HW
    subst he
    have HB2 := Lib.hid (bel_call HB1.out hb)
    clear hb f0 f1 f2 f3 hm
    by_cases h8 : m ≤ 8
    · have h8' : (m : Int) ≤ 8 := by omega
      have HW2 := Lib.hid (show wellP x = true by rw [HW.out, decide_eq_true h8]; rfl)
      clear HW
      go_wp2_with fail
      go_ret
      exact ⟨by rw [HW2.out]; rfl, HB2.out⟩
    · have h8' : ¬ (m : Int) ≤ 8 := by omega
      have HW2 := Lib.hid (show wellP x = false by rw [HW.out, decide_eq_false h8]; rfl)
      clear HW
      go_wp2_with fail
      go_ret
      exact ⟨ret_bool (by rw [HW2.out]; exact decide_eq_false (by omega)), HB2.out⟩

set_option maxRecDepth 100000 in
set_option maxHeartbeats 1000000 in
theorem rexpr_any (x : Ex) (hnm : NmE 1000000 x) (hD : x.depth ≤ 1000000000) (A : Option Addr) (c : Nat) (w : World) (hrd : RdFo w (Iv 0 w.heap.size) (.slice A x.kids.toList.length c) x.kids) :
    Calls Tryd.prog 14 #[.agg #[.int .i64 x.op, .int .i64 x.n, .string (str x.name), .slice A x.kids.toList.length c]] w (StrB (exprP x) w) := by
  have HRD := Lib.hid hrd
  have HNM := Lib.hid hnm
  have HDD := Lib.hid hD
  clear hrd hnm hD
  obtain ⟨q, hq⟩ : ∃ q, wellP x = q := ⟨_, rfl⟩
  have HQ := Lib.hid hq
  clear hq
  have hB := bel_alloc (ob := .cells #[.int .i64 x.op, .int .i64 x.n, .string (str x.name), .slice A x.kids.toList.length c] 24) (Below.refl w.heap.size w)
  have hR1 := heap_alloc_last w (.cells #[.int .i64 x.op, .int .i64 x.n, .string (str x.name), .slice A x.kids.toList.length c] 24)
  go_enter Tryd.func14, Tryd.ntmps14
  go_upto_region 1 with fail
  obtain ⟨n0, hn0⟩ : ∃ n, w.heap.size = n := ⟨_, rfl⟩
  obtain ⟨W0, hW0⟩ : ∃ W, w.alloc (.cells #[.int .i64 x.op, .int .i64 x.n, .string (str x.name), .slice A x.kids.toList.length c] 24) = W := ⟨_, rfl⟩
  rw [hW0] at hB hR1 ⊢
  have HX0 := Lib.hid (HRD.out.next hB)
  have HB := Lib.hid hB
  rw [hn0] at hR1 ⊢
  have HR1 := Lib.hid hR1
  have HG1 := Lib.hid (show W0.rangeAt n0 0 (exCells x (.slice A x.kids.toList.length c)) from rangeAt_block hR1)
  clear hB hR1 hW0 hn0 HRD
  go_wp2_with (first
    | ((with_reducible refine ex_load n0 0 x (.slice A x.kids.toList.length c) ?hx HG1.out ?_); (case hx => rfl)))
  refine (rwell_any x HNM.out HDD.out A c W0 HX0.out).mono ?_
  rintro e w1 ⟨he, hb⟩
  rw [HQ.out] at he
  subst he
  have HX1 := Lib.hid (HX0.out.next hb)
  have HB1 := Lib.hid (bel_call HB.out hb)
  have hs1 := (hb.block _ (Array.getElem?_eq_some_iff.1 HR1.out).1).trans HR1.out
  have HG2 := Lib.hid (show w1.rangeAt n0 0 (exCells x (.slice A x.kids.toList.length c)) from rangeAt_block hs1)
  clear hb hs1 HB HX0 HG1 HR1
  cases q with
  | false =>
    have HE := Lib.hid (show exprP x = [] by rw [exprP, if_neg (by rw [HQ.out]; decide)])
    go_wp2_with fail
    go_ret
    exact ⟨by rw [HE.out]; rfl, HB1.out⟩
  | true =>
    have HE := Lib.hid (show exprP x = (txE x).2 by rw [exprP, if_pos HQ.out])
    go_wp2_with (first
      | ((with_reducible refine ex_load n0 0 x (.slice A x.kids.toList.length c) ?hx HG2.out ?_); (case hx => rfl)))
    refine (rtext_any _ x (Nat.le_refl _) HQ.out A c w1 HX1.out).mono ?_
    rintro e w2 ⟨he, hb⟩
    subst he
    have HB2 := Lib.hid (bel_call HB1.out hb)
    clear hb
    go_wp2_with fail
    go_ret
    exact ⟨by rw [HE.out]; rfl, HB2.out⟩

end Go.Proofs.YtkalkglllgebkaaDoor
