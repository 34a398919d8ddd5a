/-
  The reference's formed and WellFormed (sawmillref44).
-/
import Derived.Test.YtkalkglllgebkaaDoorRzA
namespace Saw
theorem formed_not {x : Ex} (h : ¬ headP x.op x.n x.name x.kids.toList.length = true) : formedE x = false := by
  rw [formedE]
  cases hh : headP x.op x.n x.name x.kids.toList.length with
  | true => exact absurd hh h
  | false => rfl
theorem formedF_all : ∀ f : Fo, formedF f = f.toList.all formedE
  | .nil => rfl
  | .cons o n m k r => by rw [formedF, Fo.toList, List.all_cons, formedF_all r]; rfl
theorem formed_all {x : Ex} (h : headP x.op x.n x.name x.kids.toList.length = true) : formedE x = x.kids.toList.all formedE := by
  rw [formedE, h, Bool.true_and, formedF_all]
theorem head_mk {op n : Int} {nm : List UInt8} {k : Nat} (h1 : 1 ≤ op) (h2 : op ≤ 11) (h3 : k = takesP op) (h4 : -1099511627776 ≤ n) (h5 : n ≤ 1099511627776) (h6 : n = 0 ∨ op = 1) (h7 : if op = 2 then namedP nm = true else nm = []) : headP op n nm k = true := by
  simp only [headP, Bool.and_eq_true, Bool.or_eq_true, decide_eq_true_eq]
  refine ⟨⟨⟨⟨⟨⟨h1, h2⟩, h3⟩, h4⟩, h5⟩, h6⟩, ?_⟩
  split
  · rename_i h; rw [if_pos h] at h7; exact h7
  · rename_i h; rw [if_neg h] at h7; rw [h7]; rfl
end Saw
namespace Go.Proofs.YtkalkglllgebkaaDoor
open Go.RowKit Saw Go.Sort

set_option maxRecDepth 100000 in
set_option maxHeartbeats 4000000 in
theorem rformed_any : ∀ (N : Nat) (x : Ex), x.size ≤ N → NmE 1000000 x → ∀ (A : Option Addr) (c : Nat) (w : World), RdFo w (Iv 0 w.heap.size) (.slice A x.kids.toList.length c) x.kids →
    Calls Tryd.prog 57 #[.agg #[.int .i64 x.op, .int .i64 x.n, .string (str x.name), .slice A x.kids.toList.length c]] w (BoolB (formedE x) w) := by
  intro N
  induction N with
  | zero => intro x h; simp only [Ex.size] at h; omega
  | succ N ih =>
    intro x hN hnm A c w hrd
    obtain ⟨_, _, _, hc, hml⟩ := hrd.form
    clear hc
    unfold maxLen at hml
    have HRD := Lib.hid hrd
    have HI := Lib.hid ih
    have HT := Lib.hid (rNamed_any (str x.name))
    have HNM := Lib.hid hnm
    have HTL := Lib.hid (show (str x.name).toList = x.name by rw [toList_bts, bts_str])
    clear ih hrd hnm
    obtain ⟨q, hq⟩ : ∃ q, formedE x = q := ⟨_, rfl⟩
    rw [hq]
    have HQ := Lib.hid hq
    clear hq
    have hor : x.op = 1 ∨ x.op = 2 ∨ x.op = 9 ∨ (x.op ≠ 1 ∧ x.op ≠ 2 ∧ x.op ≠ 9) := by omega
    rcases hor with hcl | hcl | hcl | hcl
    · skip
      have HC := Lib.hid hcl
      clear hcl
      have e1 : (x.op == 1) = true := by rw [beq_iff_eq]; exact HC.out
      have e2 : (x.op == 2) = false := by rw [beq_eq_false_iff_ne]; have := HC.out; omega
      have e9 : (x.op == 9) = false := by rw [beq_eq_false_iff_ne]; have := HC.out; omega
      have f1 : (x.op != 1) = false := by rw [bne_eq_false_iff_eq]; exact HC.out
      have f2 : (x.op != 2) = true := by rw [bne_iff_ne]; have := HC.out; omega
      have a1 : ¬ x.op < 1 := by have := HC.out; omega
      have a2 : ¬ 11 < x.op := by have := HC.out; omega
      by_cases a3 : x.kids.toList.length = 0
      case neg =>
        have b3 : ((x.kids.toList.length : Int) != 0) = true := by rw [bne_iff_ne]; omega
        have HA3 := Lib.hid a3
        clear a3
        have hqf : q = false := by rw [← HQ.out, formed_not (fun hh => by obtain ⟨o1, o2, o3, o4, o5, o6, o7⟩ := head_facts hh; rw [takesP, if_pos (Or.inl HC.out)] at o3; exact HA3.out o3)]
        subst hqf
        go_enter Tryd.func57, Tryd.ntmps57
        go_wp2_with fail
        go_ret
        exact ⟨rfl, bel_alloc (Below.refl _ _)⟩
      have b3 : ((x.kids.toList.length : Int) != 0) = false := by rw [bne_eq_false_iff_eq]; omega
      have HP3 := Lib.hid a3
      clear a3
      by_cases a4 : x.n < -1099511627776
      · skip
        have hqf : q = false := by rw [← HQ.out, formed_not (fun hh => by obtain ⟨o1, o2, o3, o4, o5, o6, o7⟩ := head_facts hh; omega)]
        subst hqf
        go_enter Tryd.func57, Tryd.ntmps57
        go_wp2_with fail
        go_ret
        exact ⟨rfl, bel_alloc (Below.refl _ _)⟩
      by_cases a5 : 1099511627776 < x.n
      · skip
        have hqf : q = false := by rw [← HQ.out, formed_not (fun hh => by obtain ⟨o1, o2, o3, o4, o5, o6, o7⟩ := head_facts hh; omega)]
        subst hqf
        go_enter Tryd.func57, Tryd.ntmps57
        go_wp2_with fail
        go_ret
        exact ⟨rfl, bel_alloc (Below.refl _ _)⟩
      have HP4 := Lib.hid a4
      have HP5 := Lib.hid a5
      have HP1 := Lib.hid a1
      have HP2 := Lib.hid a2
      have HP6 := Lib.hid (show x.n = 0 ∨ x.op = 1 from .inr HC.out)
      obtain ⟨b, hb6⟩ : ∃ b, (x.n != 0) = b := ⟨_, rfl⟩
      cases b
      all_goals
        by_cases a7 : x.name = []
        case neg =>
          have b7 : (str x.name).toList.isEmpty = false := by rw [HTL.out]; cases hh : x.name with | nil => exact absurd hh a7 | cons a r => rfl
          have HA7 := Lib.hid a7
          clear a7
          have hqf : q = false := by rw [← HQ.out, formed_not (fun hh => by obtain ⟨o1, o2, o3, o4, o5, o6, o7⟩ := head_facts hh; rw [if_neg (by have := HC.out; omega)] at o7; exact HA7.out o7)]
          subst hqf
          go_enter Tryd.func57, Tryd.ntmps57
          go_wp2_with fail
          go_ret
          exact ⟨rfl, bel_alloc (Below.refl _ _)⟩
        have b7 : (str x.name).toList.isEmpty = true := by rw [HTL.out, a7]; rfl
        have HP7 := Lib.hid (show (if x.op = 2 then namedP x.name = true else x.name = []) by rw [if_neg (by have := HC.out; omega)]; exact a7)
        clear a7
        have HF := Lib.hid (show (x.kids.toList.drop 0).all formedE = q by rw [List.drop_zero, ← HQ.out]; exact (formed_all (head_mk (by have := HP1.out; omega) (by have := HP2.out; omega) (by rw [takesP, if_pos (Or.inl HC.out)]; exact HP3.out) (by have := HP4.out; omega) (by have := HP5.out; omega) HP6.out HP7.out)).symm)
        clear HP1 HP2 HP4 HP5 HP6 HP7
        have hB := bel_alloc (ob := .cells #[.int .i64 x.op, .int .i64 x.n, .string (str x.name), .slice A x.kids.toList.length c] 24) (Below.refl w.heap.size w)
        have hR1 := heap_alloc_last w (.cells #[.int .i64 x.op, .int .i64 x.n, .string (str x.name), .slice A x.kids.toList.length c] 24)
        go_enter Tryd.func57, Tryd.ntmps57
        go_wp2_with fail
        obtain ⟨n0, hn0⟩ : ∃ n, w.heap.size = n := ⟨_, rfl⟩
        obtain ⟨W0, hW0⟩ : ∃ W, w.alloc (.cells #[.int .i64 x.op, .int .i64 x.n, .string (str x.name), .slice A x.kids.toList.length c] 24) = W := ⟨_, rfl⟩
        rw [hW0] at hB hR1 ⊢
        have HRA0 := Lib.hid (HRD.out.next hB)
        have HB := Lib.hid hB
        rw [hn0] at hR1 ⊢
        have HR1 := Lib.hid hR1
        clear hB hR1 hW0 hn0
        go_loopw [4] (fun i wr => ∃ k : Nat, k ≤ x.kids.toList.length ∧ i = .int .i64 k ∧ (x.kids.toList.drop k).all formedE = q ∧ Below W0.heap.size W0 wr) (fun i _ => x.kids.toList.length - (intOf i).toNat)
        case atStart => exact ⟨0, by omega, rfl, HF.out, Below.refl _ _⟩
        case round =>
          obtain ⟨k, hk, rfl, hq0, hb⟩ := hrel
          have HB0 := Lib.hid hb
          have HFK := Lib.hid hq0
          have hsz := hb.size
          have r1 : wr.cell? ⟨n0, 3, none⟩ = some (.slice A x.kids.toList.length c) := (hb.cell (p := ⟨n0, 3, none⟩) (Array.getElem?_eq_some_iff.1 HR1.out).1).trans (cell_of_box HR1.out rfl)
          clear hb hq0
          by_cases hlt : k < x.kids.toList.length
          · have hx : x.kids.toList[k]? = some x.kids.toList[k] := List.getElem?_eq_getElem hlt
            have hdr := List.drop_eq_getElem_cons hlt
            obtain ⟨y, hye⟩ : ∃ y, x.kids.toList[k] = y := ⟨_, rfl⟩
            rw [hye] at hx hdr
            have hym := List.mem_of_getElem? hx
            have HSZ := Lib.hid (kids_size hym)
            have HNY := Lib.hid (nm_mem HNM.out.2 y hym)
            obtain ⟨m, hm⟩ : ∃ m, formedE y = m := ⟨_, rfl⟩
            have HAL := Lib.hid (show (m && (x.kids.toList.drop (k + 1)).all formedE) = q by rw [← HFK.out, hdr, List.all_cons, hm])
            have HME := Lib.hid hm
            obtain ⟨b, off, A1, c1, rfl, hS, hyr, hg⟩ := (HRA0.out.next HB0.out).at_ hx
            have HG := Lib.hid hg
            have HY := Lib.hid hyr
            clear hx hye hym hyr hg hdr hm
            go_wp2_with (first
              | ((with_reducible refine ex_load b (off + k * 4) y (.slice A1 y.kids.toList.length c1) ?hx HG.out ?_); (case hx => rfl)))
            refine (HI.out y (by have := HSZ.out; omega) HNY.out A1 c1 _ HY.out).mono ?_
            rintro e w2 ⟨he, hb2⟩
            rw [HME.out] at he
            subst he
            have HB2 := Lib.hid (bel_call HB0.out hb2)
            clear hb2 r1
            cases m with
            | true =>
              have HAN := Lib.hid (show (x.kids.toList.drop (k + 1)).all formedE = q by rw [← HAL.out, Bool.true_and])
              go_wp2_with fail
              exact ⟨⟨k + 1, by omega, by go_num, HAN.out, HB2.out⟩, by simp [intOf]; omega⟩
            | false =>
              have hqf : q = false := by rw [← HAL.out, Bool.false_and]
              subst hqf
              go_wp2_with fail
              go_ret
              exact ⟨rfl, bel_call HB.out HB2.out⟩
          · have hqt : q = true := by rw [← HFK.out, List.drop_eq_nil_of_le (by omega)]; rfl
            subst hqt
            clear HFK
            go_wp2_with fail
            go_ret
            exact ⟨rfl, bel_call HB.out HB0.out⟩
    · skip
      have HC := Lib.hid hcl
      clear hcl
      have e1 : (x.op == 1) = false := by rw [beq_eq_false_iff_ne]; have := HC.out; omega
      have e2 : (x.op == 2) = true := by rw [beq_iff_eq]; exact HC.out
      have e9 : (x.op == 9) = false := by rw [beq_eq_false_iff_ne]; have := HC.out; omega
      have f1 : (x.op != 1) = true := by rw [bne_iff_ne]; have := HC.out; omega
      have f2 : (x.op != 2) = false := by rw [bne_eq_false_iff_eq]; exact HC.out
      have a1 : ¬ x.op < 1 := by have := HC.out; omega
      have a2 : ¬ 11 < x.op := by have := HC.out; omega
      by_cases a3 : x.kids.toList.length = 0
      case neg =>
        have b3 : ((x.kids.toList.length : Int) != 0) = true := by rw [bne_iff_ne]; omega
        have HA3 := Lib.hid a3
        clear a3
        have hqf : q = false := by rw [← HQ.out, formed_not (fun hh => by obtain ⟨o1, o2, o3, o4, o5, o6, o7⟩ := head_facts hh; rw [takesP, if_pos (Or.inr HC.out)] at o3; exact HA3.out o3)]
        subst hqf
        go_enter Tryd.func57, Tryd.ntmps57
        go_wp2_with fail
        go_ret
        exact ⟨rfl, bel_alloc (Below.refl _ _)⟩
      have b3 : ((x.kids.toList.length : Int) != 0) = false := by rw [bne_eq_false_iff_eq]; omega
      have HP3 := Lib.hid a3
      clear a3
      by_cases a4 : x.n < -1099511627776
      · skip
        have hqf : q = false := by rw [← HQ.out, formed_not (fun hh => by obtain ⟨o1, o2, o3, o4, o5, o6, o7⟩ := head_facts hh; omega)]
        subst hqf
        go_enter Tryd.func57, Tryd.ntmps57
        go_wp2_with fail
        go_ret
        exact ⟨rfl, bel_alloc (Below.refl _ _)⟩
      by_cases a5 : 1099511627776 < x.n
      · skip
        have hqf : q = false := by rw [← HQ.out, formed_not (fun hh => by obtain ⟨o1, o2, o3, o4, o5, o6, o7⟩ := head_facts hh; omega)]
        subst hqf
        go_enter Tryd.func57, Tryd.ntmps57
        go_wp2_with fail
        go_ret
        exact ⟨rfl, bel_alloc (Below.refl _ _)⟩
      have HP4 := Lib.hid a4
      have HP5 := Lib.hid a5
      have HP1 := Lib.hid a1
      have HP2 := Lib.hid a2
      by_cases a6 : x.n = 0
      case neg =>
        have b6 : (x.n != 0) = true := by rw [bne_iff_ne]; exact a6
        have HA6 := Lib.hid a6
        clear a6
        have hqf : q = false := by rw [← HQ.out, formed_not (fun hh => by obtain ⟨o1, o2, o3, o4, o5, o6, o7⟩ := head_facts hh; rcases o6 with h | h; exact HA6.out h; have := HC.out; omega)]
        subst hqf
        go_enter Tryd.func57, Tryd.ntmps57
        go_wp2_with fail
        go_ret
        exact ⟨rfl, bel_alloc (Below.refl _ _)⟩
      have b6 : (x.n != 0) = false := by rw [bne_eq_false_iff_eq]; exact a6
      have HP6 := Lib.hid (show x.n = 0 ∨ x.op = 1 from .inl a6)
      clear a6
      obtain ⟨m, hm⟩ : ∃ m, namedP x.name = m := ⟨_, rfl⟩
      have HM := Lib.hid hm
      clear hm
      cases m with
      | false =>
        have hqf : q = false := by rw [← HQ.out, formed_not (fun hh => by obtain ⟨o1, o2, o3, o4, o5, o6, o7⟩ := head_facts hh; rw [if_pos HC.out, HM.out] at o7; cases o7)]
        subst hqf
        go_enter Tryd.func57, Tryd.ntmps57
        go_wp2_with fail
        refine (HT.out _ (by rw [size_str]; have := HNM.out.1; omega)).mono ?_
        rintro e w1 ⟨he, rfl⟩
        rw [bts_str, HM.out] at he
        subst he
        go_wp2_with fail
        go_ret
        exact ⟨rfl, bel_alloc (Below.refl _ _)⟩
      | true =>
        have HP7 := Lib.hid (show (if x.op = 2 then namedP x.name = true else x.name = []) by rw [if_pos HC.out]; exact HM.out)
        have HF := Lib.hid (show (x.kids.toList.drop 0).all formedE = q by rw [List.drop_zero, ← HQ.out]; exact (formed_all (head_mk (by have := HP1.out; omega) (by have := HP2.out; omega) (by rw [takesP, if_pos (Or.inr HC.out)]; exact HP3.out) (by have := HP4.out; omega) (by have := HP5.out; omega) HP6.out HP7.out)).symm)
        clear HP1 HP2 HP4 HP5 HP6 HP7
        have hB := bel_alloc (ob := .cells #[.int .i64 x.op, .int .i64 x.n, .string (str x.name), .slice A x.kids.toList.length c] 24) (Below.refl w.heap.size w)
        have hR1 := heap_alloc_last w (.cells #[.int .i64 x.op, .int .i64 x.n, .string (str x.name), .slice A x.kids.toList.length c] 24)
        go_enter Tryd.func57, Tryd.ntmps57
        go_wp2_with fail
        refine (HT.out _ (by rw [size_str]; have := HNM.out.1; omega)).mono ?_
        rintro e w1 ⟨he, rfl⟩
        rw [bts_str, HM.out] at he
        subst he
        go_wp2_with fail
        obtain ⟨n0, hn0⟩ : ∃ n, w.heap.size = n := ⟨_, rfl⟩
        obtain ⟨W0, hW0⟩ : ∃ W, w.alloc (.cells #[.int .i64 x.op, .int .i64 x.n, .string (str x.name), .slice A x.kids.toList.length c] 24) = W := ⟨_, rfl⟩
        rw [hW0] at hB hR1 ⊢
        have HRA0 := Lib.hid (HRD.out.next hB)
        have HB := Lib.hid hB
        rw [hn0] at hR1 ⊢
        have HR1 := Lib.hid hR1
        clear hB hR1 hW0 hn0
        go_loopw [4] (fun i wr => ∃ k : Nat, k ≤ x.kids.toList.length ∧ i = .int .i64 k ∧ (x.kids.toList.drop k).all formedE = q ∧ Below W0.heap.size W0 wr) (fun i _ => x.kids.toList.length - (intOf i).toNat)
        case atStart => exact ⟨0, by omega, rfl, HF.out, Below.refl _ _⟩
        case round =>
          obtain ⟨k, hk, rfl, hq0, hb⟩ := hrel
          have HB0 := Lib.hid hb
          have HFK := Lib.hid hq0
          have hsz := hb.size
          have r1 : wr.cell? ⟨n0, 3, none⟩ = some (.slice A x.kids.toList.length c) := (hb.cell (p := ⟨n0, 3, none⟩) (Array.getElem?_eq_some_iff.1 HR1.out).1).trans (cell_of_box HR1.out rfl)
          clear hb hq0
          by_cases hlt : k < x.kids.toList.length
          · have hx : x.kids.toList[k]? = some x.kids.toList[k] := List.getElem?_eq_getElem hlt
            have hdr := List.drop_eq_getElem_cons hlt
            obtain ⟨y, hye⟩ : ∃ y, x.kids.toList[k] = y := ⟨_, rfl⟩
            rw [hye] at hx hdr
            have hym := List.mem_of_getElem? hx
            have HSZ := Lib.hid (kids_size hym)
            have HNY := Lib.hid (nm_mem HNM.out.2 y hym)
            obtain ⟨m, hm⟩ : ∃ m, formedE y = m := ⟨_, rfl⟩
            have HAL := Lib.hid (show (m && (x.kids.toList.drop (k + 1)).all formedE) = q by rw [← HFK.out, hdr, List.all_cons, hm])
            have HME := Lib.hid hm
            obtain ⟨b, off, A1, c1, rfl, hS, hyr, hg⟩ := (HRA0.out.next HB0.out).at_ hx
            have HG := Lib.hid hg
            have HY := Lib.hid hyr
            clear hx hye hym hyr hg hdr hm
            go_wp2_with (first
              | ((with_reducible refine ex_load b (off + k * 4) y (.slice A1 y.kids.toList.length c1) ?hx HG.out ?_); (case hx => rfl)))
            refine (HI.out y (by have := HSZ.out; omega) HNY.out A1 c1 _ HY.out).mono ?_
            rintro e w2 ⟨he, hb2⟩
            rw [HME.out] at he
            subst he
            have HB2 := Lib.hid (bel_call HB0.out hb2)
            clear hb2 r1
            cases m with
            | true =>
              have HAN := Lib.hid (show (x.kids.toList.drop (k + 1)).all formedE = q by rw [← HAL.out, Bool.true_and])
              go_wp2_with fail
              exact ⟨⟨k + 1, by omega, by go_num, HAN.out, HB2.out⟩, by simp [intOf]; omega⟩
            | false =>
              have hqf : q = false := by rw [← HAL.out, Bool.false_and]
              subst hqf
              go_wp2_with fail
              go_ret
              exact ⟨rfl, bel_call HB.out HB2.out⟩
          · have hqt : q = true := by rw [← HFK.out, List.drop_eq_nil_of_le (by omega)]; rfl
            subst hqt
            clear HFK
            go_wp2_with fail
            go_ret
            exact ⟨rfl, bel_call HB.out HB0.out⟩
    · skip
      have HC := Lib.hid hcl
      clear hcl
      have e1 : (x.op == 1) = false := by rw [beq_eq_false_iff_ne]; have := HC.out; omega
      have e2 : (x.op == 2) = false := by rw [beq_eq_false_iff_ne]; have := HC.out; omega
      have e9 : (x.op == 9) = true := by rw [beq_iff_eq]; exact HC.out
      have f1 : (x.op != 1) = true := by rw [bne_iff_ne]; have := HC.out; omega
      have f2 : (x.op != 2) = true := by rw [bne_iff_ne]; have := HC.out; omega
      have a1 : ¬ x.op < 1 := by have := HC.out; omega
      have a2 : ¬ 11 < x.op := by have := HC.out; omega
      by_cases a3 : x.kids.toList.length = 1
      case neg =>
        have b3 : ((x.kids.toList.length : Int) != 1) = true := by rw [bne_iff_ne]; omega
        have HA3 := Lib.hid a3
        clear a3
        have hqf : q = false := by rw [← HQ.out, formed_not (fun hh => by obtain ⟨o1, o2, o3, o4, o5, o6, o7⟩ := head_facts hh; rw [takesP, if_neg (by have := HC.out; omega), if_pos HC.out] at o3; exact HA3.out o3)]
        subst hqf
        go_enter Tryd.func57, Tryd.ntmps57
        go_wp2_with fail
        go_ret
        exact ⟨rfl, bel_alloc (Below.refl _ _)⟩
      have b3 : ((x.kids.toList.length : Int) != 1) = false := by rw [bne_eq_false_iff_eq]; omega
      have HP3 := Lib.hid a3
      clear a3
      by_cases a4 : x.n < -1099511627776
      · skip
        have hqf : q = false := by rw [← HQ.out, formed_not (fun hh => by obtain ⟨o1, o2, o3, o4, o5, o6, o7⟩ := head_facts hh; omega)]
        subst hqf
        go_enter Tryd.func57, Tryd.ntmps57
        go_wp2_with fail
        go_ret
        exact ⟨rfl, bel_alloc (Below.refl _ _)⟩
      by_cases a5 : 1099511627776 < x.n
      · skip
        have hqf : q = false := by rw [← HQ.out, formed_not (fun hh => by obtain ⟨o1, o2, o3, o4, o5, o6, o7⟩ := head_facts hh; omega)]
        subst hqf
        go_enter Tryd.func57, Tryd.ntmps57
        go_wp2_with fail
        go_ret
        exact ⟨rfl, bel_alloc (Below.refl _ _)⟩
      have HP4 := Lib.hid a4
      have HP5 := Lib.hid a5
      have HP1 := Lib.hid a1
      have HP2 := Lib.hid a2
      by_cases a6 : x.n = 0
      case neg =>
        have b6 : (x.n != 0) = true := by rw [bne_iff_ne]; exact a6
        have HA6 := Lib.hid a6
        clear a6
        have hqf : q = false := by rw [← HQ.out, formed_not (fun hh => by obtain ⟨o1, o2, o3, o4, o5, o6, o7⟩ := head_facts hh; rcases o6 with h | h; exact HA6.out h; have := HC.out; omega)]
        subst hqf
        go_enter Tryd.func57, Tryd.ntmps57
        go_wp2_with fail
        go_ret
        exact ⟨rfl, bel_alloc (Below.refl _ _)⟩
      have b6 : (x.n != 0) = false := by rw [bne_eq_false_iff_eq]; exact a6
      have HP6 := Lib.hid (show x.n = 0 ∨ x.op = 1 from .inl a6)
      clear a6
      by_cases a7 : x.name = []
      case neg =>
        have b7 : (str x.name).toList.isEmpty = false := by rw [HTL.out]; cases hh : x.name with | nil => exact absurd hh a7 | cons a r => rfl
        have HA7 := Lib.hid a7
        clear a7
        have hqf : q = false := by rw [← HQ.out, formed_not (fun hh => by obtain ⟨o1, o2, o3, o4, o5, o6, o7⟩ := head_facts hh; rw [if_neg (by have := HC.out; omega)] at o7; exact HA7.out o7)]
        subst hqf
        go_enter Tryd.func57, Tryd.ntmps57
        go_wp2_with fail
        go_ret
        exact ⟨rfl, bel_alloc (Below.refl _ _)⟩
      have b7 : (str x.name).toList.isEmpty = true := by rw [HTL.out, a7]; rfl
      have HP7 := Lib.hid (show (if x.op = 2 then namedP x.name = true else x.name = []) by rw [if_neg (by have := HC.out; omega)]; exact a7)
      clear a7
      have HF := Lib.hid (show (x.kids.toList.drop 0).all formedE = q by rw [List.drop_zero, ← HQ.out]; exact (formed_all (head_mk (by have := HP1.out; omega) (by have := HP2.out; omega) (by rw [takesP, if_neg (by have := HC.out; omega), if_pos HC.out]; exact HP3.out) (by have := HP4.out; omega) (by have := HP5.out; omega) HP6.out HP7.out)).symm)
      clear HP1 HP2 HP4 HP5 HP6 HP7
      have hB := bel_alloc (ob := .cells #[.int .i64 x.op, .int .i64 x.n, .string (str x.name), .slice A x.kids.toList.length c] 24) (Below.refl w.heap.size w)
      have hR1 := heap_alloc_last w (.cells #[.int .i64 x.op, .int .i64 x.n, .string (str x.name), .slice A x.kids.toList.length c] 24)
      go_enter Tryd.func57, Tryd.ntmps57
      go_wp2_with fail
      obtain ⟨n0, hn0⟩ : ∃ n, w.heap.size = n := ⟨_, rfl⟩
      obtain ⟨W0, hW0⟩ : ∃ W, w.alloc (.cells #[.int .i64 x.op, .int .i64 x.n, .string (str x.name), .slice A x.kids.toList.length c] 24) = W := ⟨_, rfl⟩
      rw [hW0] at hB hR1 ⊢
      have HRA0 := Lib.hid (HRD.out.next hB)
      have HB := Lib.hid hB
      rw [hn0] at hR1 ⊢
      have HR1 := Lib.hid hR1
      clear hB hR1 hW0 hn0
      go_loopw [4] (fun i wr => ∃ k : Nat, k ≤ x.kids.toList.length ∧ i = .int .i64 k ∧ (x.kids.toList.drop k).all formedE = q ∧ Below W0.heap.size W0 wr) (fun i _ => x.kids.toList.length - (intOf i).toNat)
      case atStart => exact ⟨0, by omega, rfl, HF.out, Below.refl _ _⟩
      case round =>
        obtain ⟨k, hk, rfl, hq0, hb⟩ := hrel
        have HB0 := Lib.hid hb
        have HFK := Lib.hid hq0
        have hsz := hb.size
        have r1 : wr.cell? ⟨n0, 3, none⟩ = some (.slice A x.kids.toList.length c) := (hb.cell (p := ⟨n0, 3, none⟩) (Array.getElem?_eq_some_iff.1 HR1.out).1).trans (cell_of_box HR1.out rfl)
        clear hb hq0
        by_cases hlt : k < x.kids.toList.length
        · have hx : x.kids.toList[k]? = some x.kids.toList[k] := List.getElem?_eq_getElem hlt
          have hdr := List.drop_eq_getElem_cons hlt
          obtain ⟨y, hye⟩ : ∃ y, x.kids.toList[k] = y := ⟨_, rfl⟩
          rw [hye] at hx hdr
          have hym := List.mem_of_getElem? hx
          have HSZ := Lib.hid (kids_size hym)
          have HNY := Lib.hid (nm_mem HNM.out.2 y hym)
          obtain ⟨m, hm⟩ : ∃ m, formedE y = m := ⟨_, rfl⟩
          have HAL := Lib.hid (show (m && (x.kids.toList.drop (k + 1)).all formedE) = q by rw [← HFK.out, hdr, List.all_cons, hm])
          have HME := Lib.hid hm
          obtain ⟨b, off, A1, c1, rfl, hS, hyr, hg⟩ := (HRA0.out.next HB0.out).at_ hx
          have HG := Lib.hid hg
          have HY := Lib.hid hyr
          clear hx hye hym hyr hg hdr hm
          go_wp2_with (first
            | ((with_reducible refine ex_load b (off + k * 4) y (.slice A1 y.kids.toList.length c1) ?hx HG.out ?_); (case hx => rfl)))
          refine (HI.out y (by have := HSZ.out; omega) HNY.out A1 c1 _ HY.out).mono ?_
          rintro e w2 ⟨he, hb2⟩
          rw [HME.out] at he
          subst he
          have HB2 := Lib.hid (bel_call HB0.out hb2)
          clear hb2 r1
          cases m with
          | true =>
            have HAN := Lib.hid (show (x.kids.toList.drop (k + 1)).all formedE = q by rw [← HAL.out, Bool.true_and])
            go_wp2_with fail
            exact ⟨⟨k + 1, by omega, by go_num, HAN.out, HB2.out⟩, by simp [intOf]; omega⟩
          | false =>
            have hqf : q = false := by rw [← HAL.out, Bool.false_and]
            subst hqf
            go_wp2_with fail
            go_ret
            exact ⟨rfl, bel_call HB.out HB2.out⟩
        · have hqt : q = true := by rw [← HFK.out, List.drop_eq_nil_of_le (by omega)]; rfl
          subst hqt
          clear HFK
          go_wp2_with fail
          go_ret
          exact ⟨rfl, bel_call HB.out HB0.out⟩
    · skip
      have HC := Lib.hid hcl
      clear hcl
      have e1 : (x.op == 1) = false := by rw [beq_eq_false_iff_ne]; have := HC.out; omega
      have e2 : (x.op == 2) = false := by rw [beq_eq_false_iff_ne]; have := HC.out; omega
      have e9 : (x.op == 9) = false := by rw [beq_eq_false_iff_ne]; have := HC.out; omega
      have f1 : (x.op != 1) = true := by rw [bne_iff_ne]; have := HC.out; omega
      have f2 : (x.op != 2) = true := by rw [bne_iff_ne]; have := HC.out; omega
      by_cases a1 : x.op < 1
      · skip
        have hqf : q = false := by rw [← HQ.out, formed_not (fun hh => by obtain ⟨o1, o2, o3, o4, o5, o6, o7⟩ := head_facts hh; omega)]
        subst hqf
        go_enter Tryd.func57, Tryd.ntmps57
        go_wp2_with fail
        go_ret
        exact ⟨rfl, bel_alloc (Below.refl _ _)⟩
      by_cases a2 : 11 < x.op
      · skip
        have hqf : q = false := by rw [← HQ.out, formed_not (fun hh => by obtain ⟨o1, o2, o3, o4, o5, o6, o7⟩ := head_facts hh; omega)]
        subst hqf
        go_enter Tryd.func57, Tryd.ntmps57
        go_wp2_with fail
        go_ret
        exact ⟨rfl, bel_alloc (Below.refl _ _)⟩
      by_cases a3 : x.kids.toList.length = 2
      case neg =>
        have b3 : ((x.kids.toList.length : Int) != 2) = true := by rw [bne_iff_ne]; omega
        have HA3 := Lib.hid a3
        clear a3
        have hqf : q = false := by rw [← HQ.out, formed_not (fun hh => by obtain ⟨o1, o2, o3, o4, o5, o6, o7⟩ := head_facts hh; rw [takesP, if_neg (by have := HC.out; omega), if_neg (by have := HC.out; omega)] at o3; exact HA3.out o3)]
        subst hqf
        go_enter Tryd.func57, Tryd.ntmps57
        go_wp2_with fail
        go_ret
        exact ⟨rfl, bel_alloc (Below.refl _ _)⟩
      have b3 : ((x.kids.toList.length : Int) != 2) = false := by rw [bne_eq_false_iff_eq]; omega
      have HP3 := Lib.hid a3
      clear a3
      by_cases a4 : x.n < -1099511627776
      · skip
        have hqf : q = false := by rw [← HQ.out, formed_not (fun hh => by obtain ⟨o1, o2, o3, o4, o5, o6, o7⟩ := head_facts hh; omega)]
        subst hqf
        go_enter Tryd.func57, Tryd.ntmps57
        go_wp2_with fail
        go_ret
        exact ⟨rfl, bel_alloc (Below.refl _ _)⟩
      by_cases a5 : 1099511627776 < x.n
      · skip
        have hqf : q = false := by rw [← HQ.out, formed_not (fun hh => by obtain ⟨o1, o2, o3, o4, o5, o6, o7⟩ := head_facts hh; omega)]
        subst hqf
        go_enter Tryd.func57, Tryd.ntmps57
        go_wp2_with fail
        go_ret
        exact ⟨rfl, bel_alloc (Below.refl _ _)⟩
      have HP4 := Lib.hid a4
      have HP5 := Lib.hid a5
      have HP1 := Lib.hid a1
      have HP2 := Lib.hid a2
      by_cases a6 : x.n = 0
      case neg =>
        have b6 : (x.n != 0) = true := by rw [bne_iff_ne]; exact a6
        have HA6 := Lib.hid a6
        clear a6
        have hqf : q = false := by rw [← HQ.out, formed_not (fun hh => by obtain ⟨o1, o2, o3, o4, o5, o6, o7⟩ := head_facts hh; rcases o6 with h | h; exact HA6.out h; have := HC.out; omega)]
        subst hqf
        go_enter Tryd.func57, Tryd.ntmps57
        go_wp2_with fail
        go_ret
        exact ⟨rfl, bel_alloc (Below.refl _ _)⟩
      have b6 : (x.n != 0) = false := by rw [bne_eq_false_iff_eq]; exact a6
      have HP6 := Lib.hid (show x.n = 0 ∨ x.op = 1 from .inl a6)
      clear a6
      by_cases a7 : x.name = []
      case neg =>
        have b7 : (str x.name).toList.isEmpty = false := by rw [HTL.out]; cases hh : x.name with | nil => exact absurd hh a7 | cons a r => rfl
        have HA7 := Lib.hid a7
        clear a7
        have hqf : q = false := by rw [← HQ.out, formed_not (fun hh => by obtain ⟨o1, o2, o3, o4, o5, o6, o7⟩ := head_facts hh; rw [if_neg (by have := HC.out; omega)] at o7; exact HA7.out o7)]
        subst hqf
        go_enter Tryd.func57, Tryd.ntmps57
        go_wp2_with fail
        go_ret
        exact ⟨rfl, bel_alloc (Below.refl _ _)⟩
      have b7 : (str x.name).toList.isEmpty = true := by rw [HTL.out, a7]; rfl
      have HP7 := Lib.hid (show (if x.op = 2 then namedP x.name = true else x.name = []) by rw [if_neg (by have := HC.out; omega)]; exact a7)
      clear a7
      have HF := Lib.hid (show (x.kids.toList.drop 0).all formedE = q by rw [List.drop_zero, ← HQ.out]; exact (formed_all (head_mk (by have := HP1.out; omega) (by have := HP2.out; omega) (by rw [takesP, if_neg (by have := HC.out; omega), if_neg (by have := HC.out; omega)]; exact HP3.out) (by have := HP4.out; omega) (by have := HP5.out; omega) HP6.out HP7.out)).symm)
      clear HP1 HP2 HP4 HP5 HP6 HP7
      have hB := bel_alloc (ob := .cells #[.int .i64 x.op, .int .i64 x.n, .string (str x.name), .slice A x.kids.toList.length c] 24) (Below.refl w.heap.size w)
      have hR1 := heap_alloc_last w (.cells #[.int .i64 x.op, .int .i64 x.n, .string (str x.name), .slice A x.kids.toList.length c] 24)
      go_enter Tryd.func57, Tryd.ntmps57
      go_wp2_with fail
      obtain ⟨n0, hn0⟩ : ∃ n, w.heap.size = n := ⟨_, rfl⟩
      obtain ⟨W0, hW0⟩ : ∃ W, w.alloc (.cells #[.int .i64 x.op, .int .i64 x.n, .string (str x.name), .slice A x.kids.toList.length c] 24) = W := ⟨_, rfl⟩
      rw [hW0] at hB hR1 ⊢
      have HRA0 := Lib.hid (HRD.out.next hB)
      have HB := Lib.hid hB
      rw [hn0] at hR1 ⊢
      have HR1 := Lib.hid hR1
      clear hB hR1 hW0 hn0
      go_loopw [4] (fun i wr => ∃ k : Nat, k ≤ x.kids.toList.length ∧ i = .int .i64 k ∧ (x.kids.toList.drop k).all formedE = q ∧ Below W0.heap.size W0 wr) (fun i _ => x.kids.toList.length - (intOf i).toNat)
      case atStart => exact ⟨0, by omega, rfl, HF.out, Below.refl _ _⟩
      case round =>
        obtain ⟨k, hk, rfl, hq0, hb⟩ := hrel
        have HB0 := Lib.hid hb
        have HFK := Lib.hid hq0
        have hsz := hb.size
        have r1 : wr.cell? ⟨n0, 3, none⟩ = some (.slice A x.kids.toList.length c) := (hb.cell (p := ⟨n0, 3, none⟩) (Array.getElem?_eq_some_iff.1 HR1.out).1).trans (cell_of_box HR1.out rfl)
        clear hb hq0
        by_cases hlt : k < x.kids.toList.length
        · have hx : x.kids.toList[k]? = some x.kids.toList[k] := List.getElem?_eq_getElem hlt
          have hdr := List.drop_eq_getElem_cons hlt
          obtain ⟨y, hye⟩ : ∃ y, x.kids.toList[k] = y := ⟨_, rfl⟩
          rw [hye] at hx hdr
          have hym := List.mem_of_getElem? hx
          have HSZ := Lib.hid (kids_size hym)
          have HNY := Lib.hid (nm_mem HNM.out.2 y hym)
          obtain ⟨m, hm⟩ : ∃ m, formedE y = m := ⟨_, rfl⟩
          have HAL := Lib.hid (show (m && (x.kids.toList.drop (k + 1)).all formedE) = q by rw [← HFK.out, hdr, List.all_cons, hm])
          have HME := Lib.hid hm
          obtain ⟨b, off, A1, c1, rfl, hS, hyr, hg⟩ := (HRA0.out.next HB0.out).at_ hx
          have HG := Lib.hid hg
          have HY := Lib.hid hyr
          clear hx hye hym hyr hg hdr hm
          go_wp2_with (first
            | ((with_reducible refine ex_load b (off + k * 4) y (.slice A1 y.kids.toList.length c1) ?hx HG.out ?_); (case hx => rfl)))
          refine (HI.out y (by have := HSZ.out; omega) HNY.out A1 c1 _ HY.out).mono ?_
          rintro e w2 ⟨he, hb2⟩
          rw [HME.out] at he
          subst he
          have HB2 := Lib.hid (bel_call HB0.out hb2)
          clear hb2 r1
          cases m with
          | true =>
            have HAN := Lib.hid (show (x.kids.toList.drop (k + 1)).all formedE = q by rw [← HAL.out, Bool.true_and])
            go_wp2_with fail
            exact ⟨⟨k + 1, by omega, by go_num, HAN.out, HB2.out⟩, by simp [intOf]; omega⟩
          | false =>
            have hqf : q = false := by rw [← HAL.out, Bool.false_and]
            subst hqf
            go_wp2_with fail
            go_ret
            exact ⟨rfl, bel_call HB.out HB2.out⟩
        · have hqt : q = true := by rw [← HFK.out, List.drop_eq_nil_of_le (by omega)]; rfl
          subst hqt
          clear HFK
          go_wp2_with fail
          go_ret
          exact ⟨rfl, bel_call HB.out HB0.out⟩

end Go.Proofs.YtkalkglllgebkaaDoor
