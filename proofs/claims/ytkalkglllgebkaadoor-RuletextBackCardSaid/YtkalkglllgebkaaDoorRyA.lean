/-
  The contract of ruletext.wellFormed.
-/
import Derived.Test.YtkalkglllgebkaaDoorRxW
namespace Saw
/-- A node at a level, with all that is below it. -/
def wfP (level : Nat) (x : Ex) : Bool := formedE x && decide (x.depth + level ≤ 9)
theorem wfP_deep {level : Nat} {x : Ex} (h : 8 < level) : wfP level x = false := by
  rw [wfP, show decide (x.depth + level ≤ 9) = false by rw [decide_eq_false_iff_not]; simp only [Ex.depth]; omega, Bool.and_false]
theorem wfP_bad {level : Nat} {x : Ex} (h : headP x.op x.n x.name x.kids.toList.length = false) : wfP level x = false := by rw [wfP, formedE, h]; rfl
theorem wfP_not {level : Nat} {x : Ex} (h : headP x.op x.n x.name x.kids.toList.length = true → False) : wfP level x = false := by
  refine wfP_bad ?_
  cases hh : headP x.op x.n x.name x.kids.toList.length with
  | false => rfl
  | true => exact (h hh).elim
theorem all_wf : ∀ (f : Fo) (level : Nat), f.toList.all (wfP level) = true ↔ formedF f = true ∧ (f.toList = [] ∨ f.depth + level ≤ 9)
  | .nil, _ => by simp [Fo.toList, formedF]
  | .cons o n m k r, level => by
    rw [Fo.toList, List.all_cons, Bool.and_eq_true, all_wf r level, formedF, Fo.depth, wfP, formedE, Bool.and_eq_true, Bool.and_eq_true, Bool.and_eq_true, Bool.and_eq_true, decide_eq_true_eq]
    simp only [Ex.depth, reduceCtorEq, false_or]
    have hr : r.toList = [] → r.depth = 0 := fun h => by
      have : r = .nil := by rw [← Fo.ofList_toList r, h]; rfl
      rw [this]; rfl
    constructor
    · rintro ⟨⟨⟨a, b⟩, c⟩, d, e⟩
      refine ⟨⟨⟨a, b⟩, d⟩, ?_⟩
      rcases e with e | e
      · rw [hr e]; omega
      · omega
    · rintro ⟨⟨⟨a, b⟩, d⟩, e⟩
      exact ⟨⟨⟨a, b⟩, by omega⟩, d, .inr (by omega)⟩
theorem wfP_good {level : Nat} {x : Ex} (h : headP x.op x.n x.name x.kids.toList.length = true) (hl : level ≤ 8) : wfP level x = x.kids.toList.all (wfP (level + 1)) := by
  rw [Bool.eq_iff_iff, all_wf, wfP, formedE, h, Bool.true_and, Bool.and_eq_true, decide_eq_true_eq]
  simp only [Ex.depth]
  have hr : x.kids.toList = [] → x.kids.depth = 0 := fun h => by
    have : x.kids = .nil := by rw [← Fo.ofList_toList x.kids, h]; rfl
    rw [this]; rfl
  constructor
  · rintro ⟨a, b⟩; exact ⟨a, .inr (by omega)⟩
  · rintro ⟨a, b⟩
    refine ⟨a, ?_⟩
    rcases b with b | b
    · rw [hr b]; omega
    · omega
/-- All names are so short. -/
def nmF (M : Nat) : Fo → Prop
  | .nil => True
  | .cons _ _ m k r => m.length ≤ M ∧ nmF M k ∧ nmF M r
def NmE (M : Nat) (x : Ex) : Prop := x.name.length ≤ M ∧ nmF M x.kids
theorem nm_mem {M : Nat} : ∀ {f : Fo}, nmF M f → ∀ x ∈ f.toList, NmE M x
  | .nil, _, x, h => by cases h
  | .cons o n m k r, hf, x, h => by
    rw [Fo.toList] at h
    rcases List.mem_cons.1 h with rfl | h
    · exact ⟨hf.1, hf.2.1⟩
    · exact nm_mem hf.2.2 x h
theorem nm_of {M : Nat} : ∀ {f : Fo}, (∀ x ∈ f.toList, NmE M x) → nmF M f
  | .nil, _ => trivial
  | .cons o n m k r, h => by
    have h1 := h ⟨o, n, m, k⟩ (by rw [Fo.toList]; exact List.mem_cons_self)
    exact ⟨h1.1, h1.2, nm_of fun x hx => h x (by rw [Fo.toList]; exact List.mem_cons_of_mem _ hx)⟩
theorem head_facts {op n : Int} {nm : List UInt8} {k : Nat} (h : headP op n nm k = true) : 1 ≤ op ∧ op ≤ 11 ∧ k = takesP op ∧ -1099511627776 ≤ n ∧ n ≤ 1099511627776 ∧ (n = 0 ∨ op = 1) ∧ (if op = 2 then namedP nm = true else nm = []) := by
  simp only [headP, Bool.and_eq_true, Bool.or_eq_true, decide_eq_true_eq] at h
  obtain ⟨⟨⟨⟨⟨⟨h1, h2⟩, h3⟩, h4⟩, h5⟩, h6⟩, h7⟩ := h
  refine ⟨h1, h2, h3, h4, h5, h6, ?_⟩
  split at h7
  · rename_i h; rw [if_pos h]; exact h7
  · rename_i h; rw [if_neg h]; exact beq_iff_eq.1 h7
theorem head_of {op n : Int} {nm : List UInt8} {k : Nat} (h1 : 1 ≤ op) (h2 : op ≤ 11) (h3 : k = takesP op) (h4 : -1099511627776 ≤ n) (h5 : n ≤ 1099511627776) (h6 : n = 0 ∨ op = 1) (h7 : if op = 2 then namedP nm = true else nm = []) : headP op n nm k = true := by
  simp only [headP, Bool.and_eq_true, Bool.or_eq_true, decide_eq_true_eq]
  refine ⟨⟨⟨⟨⟨⟨h1, h2⟩, h3⟩, h4⟩, h5⟩, h6⟩, ?_⟩
  split at h7
  · rename_i h; rw [if_pos h]; exact h7
  · rename_i h; rw [if_neg h]; exact beq_iff_eq.2 h7
theorem all_take {l : List Ex} {p : Ex → Bool} {k : Nat} {x : Ex} (h : l[k]? = some x) : (l.drop k).all p = (p x && (l.drop (k + 1)).all p) := by
  obtain ⟨hk, hn⟩ := List.getElem?_eq_some_iff.1 h
  rw [List.drop_eq_getElem_cons hk, hn, List.all_cons]
end Saw
namespace Go.Proofs.YtkalkglllgebkaaDoor
open Go.RowKit Saw

set_option maxRecDepth 100000 in
set_option maxHeartbeats 4000000 in
theorem wf_any : ∀ (N : Nat) (x : Ex), x.size ≤ N → NmE 1000000 x → ∀ (lv : Nat) (A : Option Addr) (c : Nat) (w : World), lv ≤ 100 → RdFo w (Iv 0 w.heap.size) (.slice A x.kids.toList.length c) x.kids →
    Calls Tryd.prog 31 #[.agg #[.int .i64 x.op, .int .i64 x.n, .string (str x.name), .slice A x.kids.toList.length c], .int .i64 lv] w (BoolB (wfP lv x) w) := by
  intro N
  induction N with
  | zero => intro x h; simp only [Ex.size] at h; omega
  | succ N ih =>
    intro x hN hnm lv A c w hlv hrd
    obtain ⟨_, _, _, hc, hml⟩ := hrd.form
    clear hc
    unfold maxLen at hml
    have HRD := Lib.hid hrd
    have HI := Lib.hid ih
    have HT := Lib.hid (isNm_any (str x.name))
    have HNM := Lib.hid hnm
    have hTL : (str x.name).toList = x.name := by rw [toList_bts, bts_str]
    have HTL := Lib.hid hTL
    clear ih hrd hTL hnm
    obtain ⟨q, hq⟩ : ∃ q, wfP lv x = q := ⟨_, rfl⟩
    rw [hq]
    have HQ := Lib.hid hq
    clear hq
    by_cases h8 : 8 < lv
    · have hqf : q = false := by rw [← HQ.out, wfP_deep h8]
      subst hqf
      have h8' : (8 : Int) < (lv : Int) := by omega
      clear h8
      go_enter Tryd.func31, Tryd.ntmps31
      go_wp2_with fail
      go_ret
      exact ⟨rfl, bel_alloc (Below.refl _ _)⟩
    have h8' : ¬ (8 : Int) < (lv : Int) := by omega
    have hcl : x.op = 1 ∨ x.op = 2 ∨ x.op = 9 ∨ (x.op ≠ 1 ∧ x.op ≠ 2 ∧ x.op ≠ 9) := by omega
    by_cases hP1 : x.n ≠ 0 ∧ x.op ≠ 1
    · have b1 : (x.n != 0) = true := by rw [bne_iff_ne]; exact hP1.1
      have b2 : (x.op != 1) = true := by rw [bne_iff_ne]; exact hP1.2
      have hqf : q = false := by rw [← HQ.out, wfP_not (fun hh => by obtain ⟨o1, o2, o3, o4, o5, o6, o7⟩ := head_facts hh; rcases o6 with h | h; exact hP1.1 h; exact hP1.2 h)]
      subst hqf
      clear hP1 hcl
      go_enter Tryd.func31, Tryd.ntmps31
      go_wp2_with fail
      go_ret
      exact ⟨rfl, bel_alloc (Below.refl _ _)⟩
    by_cases hP2 : x.name ≠ [] ∧ x.op ≠ 2
    · have b3 : (str x.name).toList.isEmpty = false := by rw [HTL.out]; cases hh : x.name with | nil => exact absurd hh hP2.1 | cons a r => rfl
      have b4 : (x.op != 2) = true := by rw [bne_iff_ne]; exact hP2.2
      by_cases hn0 : x.n = 0
      · have b1 : (x.n != 0) = false := by rw [bne_eq_false_iff_eq]; exact hn0
        have hqf : q = false := by rw [← HQ.out, wfP_not (fun hh => by obtain ⟨o1, o2, o3, o4, o5, o6, o7⟩ := head_facts hh; rw [if_neg hP2.2] at o7; exact hP2.1 o7)]
        subst hqf
        clear hP1 hP2 hcl hn0
        go_enter Tryd.func31, Tryd.ntmps31
        go_wp2_with fail
        go_ret
        exact ⟨rfl, bel_alloc (Below.refl _ _)⟩
      · have b1 : (x.n != 0) = true := by rw [bne_iff_ne]; exact hn0
        have b2 : (x.op != 1) = false := by rw [bne_eq_false_iff_eq]; exact Classical.not_not.1 (fun h => hP1 ⟨hn0, h⟩)
        have hqf : q = false := by rw [← HQ.out, wfP_not (fun hh => by obtain ⟨o1, o2, o3, o4, o5, o6, o7⟩ := head_facts hh; rw [if_neg hP2.2] at o7; exact hP2.1 o7)]
        subst hqf
        clear hP1 hP2 hcl hn0
        go_enter Tryd.func31, Tryd.ntmps31
        go_wp2_with fail
        go_ret
        exact ⟨rfl, bel_alloc (Below.refl _ _)⟩
    rcases hcl with hc | hc | hc | hc
    · have b2 : (x.op != 1) = false := by rw [bne_eq_false_iff_eq]; exact hc
      have e1 : (x.op == 1) = true := by rw [beq_iff_eq]; exact hc
      have hnm0 : x.name = [] := Classical.not_not.1 (fun h => hP2 ⟨h, by omega⟩)
      have b3 : (str x.name).toList.isEmpty = true := by rw [HTL.out, hnm0]; rfl
      have hcl := trivial
      by_cases hl : x.n < -1099511627776
      · have hqf : q = false := by rw [← HQ.out, wfP_not (fun hh => by obtain ⟨o1, o2, o3, o4, o5, o6, o7⟩ := head_facts hh; omega)]
        subst hqf
        clear hP1 hP2 hc hnm0
        go_enter Tryd.func31, Tryd.ntmps31
        by_cases hnz : x.n = 0
        · omega
        · have b1 : (x.n != 0) = true := by rw [bne_iff_ne]; exact hnz
          clear hnz
          go_wp2_with fail
          go_ret
          exact ⟨rfl, bel_alloc (Below.refl _ _)⟩
      by_cases hh : 1099511627776 < x.n
      · have hqf : q = false := by rw [← HQ.out, wfP_not (fun hh => by obtain ⟨o1, o2, o3, o4, o5, o6, o7⟩ := head_facts hh; omega)]
        subst hqf
        clear hP1 hP2 hc hnm0
        go_enter Tryd.func31, Tryd.ntmps31
        by_cases hnz : x.n = 0
        · omega
        · have b1 : (x.n != 0) = true := by rw [bne_iff_ne]; exact hnz
          clear hnz
          go_wp2_with fail
          go_ret
          exact ⟨rfl, bel_alloc (Below.refl _ _)⟩
      by_cases hk : x.kids.toList.length = 0
      · have k0 : ((x.kids.toList.length : Int) != 0) = false := by rw [bne_eq_false_iff_eq]; omega
        by_cases hn0 : x.n = 0
        · have b1 : (x.n != 0) = false := by rw [bne_eq_false_iff_eq]; exact hn0
          clear hP1 hP2
          have HQA := Lib.hid (show q = x.kids.toList.all (wfP (lv + 1)) by rw [← HQ.out, wfP_good (head_of (by omega) (by omega) (by rw [hc]; exact hk) (by omega) (by omega) (.inr hc) (by rw [if_neg (by omega)]; exact hnm0)) (by omega)])
          have hlv1 : lv + 1 ≤ 100 := by omega
          clear hcl
          try clear hc
          try clear hk
          try clear hn0
          try clear hnm0
          go_enter Tryd.func31, Tryd.ntmps31
          go_wp2_with fail
          go_loopw [71] (fun i wr => ∃ k : Nat, k ≤ x.kids.toList.length ∧ i = .int .i64 k ∧ (x.kids.toList.drop k).all (wfP (lv + 1)) = q ∧ Below w.heap.size w wr) (fun i _ => x.kids.toList.length - (intOf i).toNat)
          case atStart => exact ⟨0, by omega, rfl, by rw [List.drop_zero]; exact HQA.out.symm, bel_alloc (Below.refl _ _)⟩
          case round =>
            obtain ⟨k, hk, rfl, hqk, hb⟩ := hrel
            have HB := Lib.hid hb
            have HQK := Lib.hid hqk
            have hsz := hb.size
            clear hb hqk
            by_cases hlt : k < x.kids.toList.length
            · have hx : x.kids.toList[k]? = some x.kids.toList[k] := List.getElem?_eq_getElem hlt
              obtain ⟨y, hye⟩ : ∃ y, x.kids.toList[k] = y := ⟨_, rfl⟩
              rw [hye] at hx
              have hym := List.mem_of_getElem? hx
              have HSZ := Lib.hid (kids_size hym)
              have HNY := Lib.hid (nm_mem HNM.out.2 y hym)
              have HAL := Lib.hid (all_take (p := wfP (lv + 1)) hx)
              have hRD := HRD.out.below HB.out (fun b hb => hb.2)
              obtain ⟨b, off, A1, c1, rfl, hS, hyr, hg⟩ := hRD.at_ hx
              have HG := Lib.hid hg
              have HY := Lib.hid ((hyr.upto hsz).allocN (.cells #[.int .i64 y.op, .int .i64 y.n, .string (str y.name), .slice A1 y.kids.toList.length c1] 24))
              clear hx hye hym hRD hyr hg
              go_wp2_with (first
                | ((with_reducible refine ex_load b (off + k * 4) y (.slice A1 y.kids.toList.length c1) ?hx HG.out ?_); (case hx => rfl)))
              refine (HI.out y (by have := HSZ.out; omega) HNY.out (lv + 1) A1 c1 _ hlv1 HY.out).mono ?_
              rintro e w2 ⟨he, hb2⟩
              have HB2 := Lib.hid ((HB.out.alloc hsz _).trans (hb2.mono (by rw [World.size_alloc]; omega)))
              clear hb2
              cases hb : wfP (lv + 1) y with
              | true =>
                rw [hb] at he HAL
                have HK2 := Lib.hid (show (x.kids.toList.drop (k + 1)).all (wfP (lv + 1)) = q by rw [← HQK.out, HAL.out]; rfl)
                subst he
                clear hb
                go_wp2_with fail
                exact ⟨⟨k + 1, by omega, by go_num, HK2.out, HB2.out⟩, by simp [intOf]; omega⟩
              | false =>
                rw [hb] at he HAL
                have hqf : q = false := by rw [← HQK.out, HAL.out]; rfl
                subst hqf
                subst he
                clear hb
                go_wp2_with fail
                go_ret
                exact ⟨rfl, HB2.out⟩
            · have hqt : q = true := by
                rw [← HQK.out, List.drop_eq_nil_of_le (by omega)]; rfl
              subst hqt
              clear HQK
              go_wp2_with fail
              go_ret
              exact ⟨rfl, HB.out⟩
        · have b1 : (x.n != 0) = true := by rw [bne_iff_ne]; exact hn0
          clear hP1 hP2
          have HQA := Lib.hid (show q = x.kids.toList.all (wfP (lv + 1)) by rw [← HQ.out, wfP_good (head_of (by omega) (by omega) (by rw [hc]; exact hk) (by omega) (by omega) (.inr hc) (by rw [if_neg (by omega)]; exact hnm0)) (by omega)])
          have hlv1 : lv + 1 ≤ 100 := by omega
          clear hcl
          try clear hc
          try clear hk
          try clear hn0
          try clear hnm0
          go_enter Tryd.func31, Tryd.ntmps31
          go_wp2_with fail
          go_loopw [71] (fun i wr => ∃ k : Nat, k ≤ x.kids.toList.length ∧ i = .int .i64 k ∧ (x.kids.toList.drop k).all (wfP (lv + 1)) = q ∧ Below w.heap.size w wr) (fun i _ => x.kids.toList.length - (intOf i).toNat)
          case atStart => exact ⟨0, by omega, rfl, by rw [List.drop_zero]; exact HQA.out.symm, bel_alloc (Below.refl _ _)⟩
          case round =>
            obtain ⟨k, hk, rfl, hqk, hb⟩ := hrel
            have HB := Lib.hid hb
            have HQK := Lib.hid hqk
            have hsz := hb.size
            clear hb hqk
            by_cases hlt : k < x.kids.toList.length
            · have hx : x.kids.toList[k]? = some x.kids.toList[k] := List.getElem?_eq_getElem hlt
              obtain ⟨y, hye⟩ : ∃ y, x.kids.toList[k] = y := ⟨_, rfl⟩
              rw [hye] at hx
              have hym := List.mem_of_getElem? hx
              have HSZ := Lib.hid (kids_size hym)
              have HNY := Lib.hid (nm_mem HNM.out.2 y hym)
              have HAL := Lib.hid (all_take (p := wfP (lv + 1)) hx)
              have hRD := HRD.out.below HB.out (fun b hb => hb.2)
              obtain ⟨b, off, A1, c1, rfl, hS, hyr, hg⟩ := hRD.at_ hx
              have HG := Lib.hid hg
              have HY := Lib.hid ((hyr.upto hsz).allocN (.cells #[.int .i64 y.op, .int .i64 y.n, .string (str y.name), .slice A1 y.kids.toList.length c1] 24))
              clear hx hye hym hRD hyr hg
              go_wp2_with (first
                | ((with_reducible refine ex_load b (off + k * 4) y (.slice A1 y.kids.toList.length c1) ?hx HG.out ?_); (case hx => rfl)))
              refine (HI.out y (by have := HSZ.out; omega) HNY.out (lv + 1) A1 c1 _ hlv1 HY.out).mono ?_
              rintro e w2 ⟨he, hb2⟩
              have HB2 := Lib.hid ((HB.out.alloc hsz _).trans (hb2.mono (by rw [World.size_alloc]; omega)))
              clear hb2
              cases hb : wfP (lv + 1) y with
              | true =>
                rw [hb] at he HAL
                have HK2 := Lib.hid (show (x.kids.toList.drop (k + 1)).all (wfP (lv + 1)) = q by rw [← HQK.out, HAL.out]; rfl)
                subst he
                clear hb
                go_wp2_with fail
                exact ⟨⟨k + 1, by omega, by go_num, HK2.out, HB2.out⟩, by simp [intOf]; omega⟩
              | false =>
                rw [hb] at he HAL
                have hqf : q = false := by rw [← HQK.out, HAL.out]; rfl
                subst hqf
                subst he
                clear hb
                go_wp2_with fail
                go_ret
                exact ⟨rfl, HB2.out⟩
            · have hqt : q = true := by
                rw [← HQK.out, List.drop_eq_nil_of_le (by omega)]; rfl
              subst hqt
              clear HQK
              go_wp2_with fail
              go_ret
              exact ⟨rfl, HB.out⟩
      · have k0 : ((x.kids.toList.length : Int) != 0) = true := by rw [bne_iff_ne]; omega
        by_cases hn0 : x.n = 0
        · have b1 : (x.n != 0) = false := by rw [bne_eq_false_iff_eq]; exact hn0
          have hqf : q = false := by rw [← HQ.out, wfP_not (fun hh => by obtain ⟨o1, o2, o3, o4, o5, o6, o7⟩ := head_facts hh; rw [hc] at o3; exact hk o3)]
          subst hqf
          clear hP1 hP2 hc hnm0 hk hn0
          go_enter Tryd.func31, Tryd.ntmps31
          go_wp2_with fail
          go_ret
          exact ⟨rfl, bel_alloc (Below.refl _ _)⟩
        · have b1 : (x.n != 0) = true := by rw [bne_iff_ne]; exact hn0
          have hqf : q = false := by rw [← HQ.out, wfP_not (fun hh => by obtain ⟨o1, o2, o3, o4, o5, o6, o7⟩ := head_facts hh; rw [hc] at o3; exact hk o3)]
          subst hqf
          clear hP1 hP2 hc hnm0 hk hn0
          go_enter Tryd.func31, Tryd.ntmps31
          go_wp2_with fail
          go_ret
          exact ⟨rfl, bel_alloc (Below.refl _ _)⟩
    · have b2 : (x.op != 1) = true := by rw [bne_iff_ne]; omega
      have hn0 : x.n = 0 := Classical.not_not.1 (fun h => hP1 ⟨h, by omega⟩)
      have b1 : (x.n != 0) = false := by rw [bne_eq_false_iff_eq]; exact hn0
      have e1 : (x.op == 1) = false := by rw [beq_eq_false_iff_ne]; omega
      have e2 : (x.op == 2) = true := by rw [beq_iff_eq]; exact hc
      have b4 : (x.op != 2) = false := by rw [bne_eq_false_iff_eq]; exact hc
      have hcl := trivial
      obtain ⟨nq, hnq⟩ : ∃ nq, namedP x.name = nq := ⟨_, rfl⟩
      have HNQ := Lib.hid hnq
      clear hnq
      cases hem : (str x.name).toList.isEmpty with
      | true =>
        cases nq with
        | false =>
          have hqf : q = false := by rw [← HQ.out, wfP_not (fun hh => by obtain ⟨o1, o2, o3, o4, o5, o6, o7⟩ := head_facts hh; rw [if_pos hc, HNQ.out] at o7; cases o7)]
          subst hqf
          clear hP1 hP2 hc hn0
          go_enter Tryd.func31, Tryd.ntmps31
          go_wp2_with fail
          refine (HT.out _ (by rw [size_str]; have := HNM.out.1; omega)).mono ?_
          rintro e w1 ⟨he, rfl⟩
          rw [bts_str, HNQ.out] at he
          subst he
          go_wp2_with fail
          go_ret
          exact ⟨rfl, bel_alloc (Below.refl _ _)⟩
        | true =>
          by_cases hk : x.kids.toList.length = 0
          · have k0 : ((x.kids.toList.length : Int) != 0) = false := by rw [bne_eq_false_iff_eq]; omega
            clear hP1 hP2
            have HQA := Lib.hid (show q = x.kids.toList.all (wfP (lv + 1)) by rw [← HQ.out, wfP_good (head_of (by omega) (by omega) (by rw [hc]; exact hk) (by omega) (by omega) (.inl hn0) (by rw [if_pos hc]; exact HNQ.out)) (by omega)])
            have hlv1 : lv + 1 ≤ 100 := by omega
            clear hcl
            try clear hc
            try clear hk
            try clear hn0
            try clear hnm0
            go_enter Tryd.func31, Tryd.ntmps31
            go_wp2_with fail
            refine (HT.out _ (by rw [size_str]; have := HNM.out.1; omega)).mono ?_
            rintro e w1 ⟨he, rfl⟩
            rw [bts_str, HNQ.out] at he
            subst he
            go_wp2_with fail
            go_loopw [71] (fun i wr => ∃ k : Nat, k ≤ x.kids.toList.length ∧ i = .int .i64 k ∧ (x.kids.toList.drop k).all (wfP (lv + 1)) = q ∧ Below w.heap.size w wr) (fun i _ => x.kids.toList.length - (intOf i).toNat)
            case atStart => exact ⟨0, by omega, rfl, by rw [List.drop_zero]; exact HQA.out.symm, bel_alloc (Below.refl _ _)⟩
            case round =>
              obtain ⟨k, hk, rfl, hqk, hb⟩ := hrel
              have HB := Lib.hid hb
              have HQK := Lib.hid hqk
              have hsz := hb.size
              clear hb hqk
              by_cases hlt : k < x.kids.toList.length
              · have hx : x.kids.toList[k]? = some x.kids.toList[k] := List.getElem?_eq_getElem hlt
                obtain ⟨y, hye⟩ : ∃ y, x.kids.toList[k] = y := ⟨_, rfl⟩
                rw [hye] at hx
                have hym := List.mem_of_getElem? hx
                have HSZ := Lib.hid (kids_size hym)
                have HNY := Lib.hid (nm_mem HNM.out.2 y hym)
                have HAL := Lib.hid (all_take (p := wfP (lv + 1)) hx)
                have hRD := HRD.out.below HB.out (fun b hb => hb.2)
                obtain ⟨b, off, A1, c1, rfl, hS, hyr, hg⟩ := hRD.at_ hx
                have HG := Lib.hid hg
                have HY := Lib.hid ((hyr.upto hsz).allocN (.cells #[.int .i64 y.op, .int .i64 y.n, .string (str y.name), .slice A1 y.kids.toList.length c1] 24))
                clear hx hye hym hRD hyr hg
                go_wp2_with (first
                  | ((with_reducible refine ex_load b (off + k * 4) y (.slice A1 y.kids.toList.length c1) ?hx HG.out ?_); (case hx => rfl)))
                refine (HI.out y (by have := HSZ.out; omega) HNY.out (lv + 1) A1 c1 _ hlv1 HY.out).mono ?_
                rintro e w2 ⟨he, hb2⟩
                have HB2 := Lib.hid ((HB.out.alloc hsz _).trans (hb2.mono (by rw [World.size_alloc]; omega)))
                clear hb2
                cases hb : wfP (lv + 1) y with
                | true =>
                  rw [hb] at he HAL
                  have HK2 := Lib.hid (show (x.kids.toList.drop (k + 1)).all (wfP (lv + 1)) = q by rw [← HQK.out, HAL.out]; rfl)
                  subst he
                  clear hb
                  go_wp2_with fail
                  exact ⟨⟨k + 1, by omega, by go_num, HK2.out, HB2.out⟩, by simp [intOf]; omega⟩
                | false =>
                  rw [hb] at he HAL
                  have hqf : q = false := by rw [← HQK.out, HAL.out]; rfl
                  subst hqf
                  subst he
                  clear hb
                  go_wp2_with fail
                  go_ret
                  exact ⟨rfl, HB2.out⟩
              · have hqt : q = true := by
                  rw [← HQK.out, List.drop_eq_nil_of_le (by omega)]; rfl
                subst hqt
                clear HQK
                go_wp2_with fail
                go_ret
                exact ⟨rfl, HB.out⟩
          · have k0 : ((x.kids.toList.length : Int) != 0) = true := by rw [bne_iff_ne]; omega
            have hqf : q = false := by rw [← HQ.out, wfP_not (fun hh => by obtain ⟨o1, o2, o3, o4, o5, o6, o7⟩ := head_facts hh; rw [hc] at o3; exact hk o3)]
            subst hqf
            clear hP1 hP2 hc hn0 hk
            go_enter Tryd.func31, Tryd.ntmps31
            go_wp2_with fail
            refine (HT.out _ (by rw [size_str]; have := HNM.out.1; omega)).mono ?_
            rintro e w1 ⟨he, rfl⟩
            rw [bts_str, HNQ.out] at he
            subst he
            go_wp2_with fail
            go_ret
            exact ⟨rfl, bel_alloc (Below.refl _ _)⟩
      | false =>
        cases nq with
        | false =>
          have hqf : q = false := by rw [← HQ.out, wfP_not (fun hh => by obtain ⟨o1, o2, o3, o4, o5, o6, o7⟩ := head_facts hh; rw [if_pos hc, HNQ.out] at o7; cases o7)]
          subst hqf
          clear hP1 hP2 hc hn0
          go_enter Tryd.func31, Tryd.ntmps31
          go_wp2_with fail
          refine (HT.out _ (by rw [size_str]; have := HNM.out.1; omega)).mono ?_
          rintro e w1 ⟨he, rfl⟩
          rw [bts_str, HNQ.out] at he
          subst he
          go_wp2_with fail
          go_ret
          exact ⟨rfl, bel_alloc (Below.refl _ _)⟩
        | true =>
          by_cases hk : x.kids.toList.length = 0
          · have k0 : ((x.kids.toList.length : Int) != 0) = false := by rw [bne_eq_false_iff_eq]; omega
            clear hP1 hP2
            have HQA := Lib.hid (show q = x.kids.toList.all (wfP (lv + 1)) by rw [← HQ.out, wfP_good (head_of (by omega) (by omega) (by rw [hc]; exact hk) (by omega) (by omega) (.inl hn0) (by rw [if_pos hc]; exact HNQ.out)) (by omega)])
            have hlv1 : lv + 1 ≤ 100 := by omega
            clear hcl
            try clear hc
            try clear hk
            try clear hn0
            try clear hnm0
            go_enter Tryd.func31, Tryd.ntmps31
            go_wp2_with fail
            refine (HT.out _ (by rw [size_str]; have := HNM.out.1; omega)).mono ?_
            rintro e w1 ⟨he, rfl⟩
            rw [bts_str, HNQ.out] at he
            subst he
            go_wp2_with fail
            go_loopw [71] (fun i wr => ∃ k : Nat, k ≤ x.kids.toList.length ∧ i = .int .i64 k ∧ (x.kids.toList.drop k).all (wfP (lv + 1)) = q ∧ Below w.heap.size w wr) (fun i _ => x.kids.toList.length - (intOf i).toNat)
            case atStart => exact ⟨0, by omega, rfl, by rw [List.drop_zero]; exact HQA.out.symm, bel_alloc (Below.refl _ _)⟩
            case round =>
              obtain ⟨k, hk, rfl, hqk, hb⟩ := hrel
              have HB := Lib.hid hb
              have HQK := Lib.hid hqk
              have hsz := hb.size
              clear hb hqk
              by_cases hlt : k < x.kids.toList.length
              · have hx : x.kids.toList[k]? = some x.kids.toList[k] := List.getElem?_eq_getElem hlt
                obtain ⟨y, hye⟩ : ∃ y, x.kids.toList[k] = y := ⟨_, rfl⟩
                rw [hye] at hx
                have hym := List.mem_of_getElem? hx
                have HSZ := Lib.hid (kids_size hym)
                have HNY := Lib.hid (nm_mem HNM.out.2 y hym)
                have HAL := Lib.hid (all_take (p := wfP (lv + 1)) hx)
                have hRD := HRD.out.below HB.out (fun b hb => hb.2)
                obtain ⟨b, off, A1, c1, rfl, hS, hyr, hg⟩ := hRD.at_ hx
                have HG := Lib.hid hg
                have HY := Lib.hid ((hyr.upto hsz).allocN (.cells #[.int .i64 y.op, .int .i64 y.n, .string (str y.name), .slice A1 y.kids.toList.length c1] 24))
                clear hx hye hym hRD hyr hg
                go_wp2_with (first
                  | ((with_reducible refine ex_load b (off + k * 4) y (.slice A1 y.kids.toList.length c1) ?hx HG.out ?_); (case hx => rfl)))
                refine (HI.out y (by have := HSZ.out; omega) HNY.out (lv + 1) A1 c1 _ hlv1 HY.out).mono ?_
                rintro e w2 ⟨he, hb2⟩
                have HB2 := Lib.hid ((HB.out.alloc hsz _).trans (hb2.mono (by rw [World.size_alloc]; omega)))
                clear hb2
                cases hb : wfP (lv + 1) y with
                | true =>
                  rw [hb] at he HAL
                  have HK2 := Lib.hid (show (x.kids.toList.drop (k + 1)).all (wfP (lv + 1)) = q by rw [← HQK.out, HAL.out]; rfl)
                  subst he
                  clear hb
                  go_wp2_with fail
                  exact ⟨⟨k + 1, by omega, by go_num, HK2.out, HB2.out⟩, by simp [intOf]; omega⟩
                | false =>
                  rw [hb] at he HAL
                  have hqf : q = false := by rw [← HQK.out, HAL.out]; rfl
                  subst hqf
                  subst he
                  clear hb
                  go_wp2_with fail
                  go_ret
                  exact ⟨rfl, HB2.out⟩
              · have hqt : q = true := by
                  rw [← HQK.out, List.drop_eq_nil_of_le (by omega)]; rfl
                subst hqt
                clear HQK
                go_wp2_with fail
                go_ret
                exact ⟨rfl, HB.out⟩
          · have k0 : ((x.kids.toList.length : Int) != 0) = true := by rw [bne_iff_ne]; omega
            have hqf : q = false := by rw [← HQ.out, wfP_not (fun hh => by obtain ⟨o1, o2, o3, o4, o5, o6, o7⟩ := head_facts hh; rw [hc] at o3; exact hk o3)]
            subst hqf
            clear hP1 hP2 hc hn0 hk
            go_enter Tryd.func31, Tryd.ntmps31
            go_wp2_with fail
            refine (HT.out _ (by rw [size_str]; have := HNM.out.1; omega)).mono ?_
            rintro e w1 ⟨he, rfl⟩
            rw [bts_str, HNQ.out] at he
            subst he
            go_wp2_with fail
            go_ret
            exact ⟨rfl, bel_alloc (Below.refl _ _)⟩
    · have e3 : (x.op == 9) = true := by rw [beq_iff_eq]; exact hc
      have hn0 : x.n = 0 := Classical.not_not.1 (fun h => hP1 ⟨h, by omega⟩)
      have hnm0 : x.name = [] := Classical.not_not.1 (fun h => hP2 ⟨h, by omega⟩)
      have b1 : (x.n != 0) = false := by rw [bne_eq_false_iff_eq]; exact hn0
      have b3 : (str x.name).toList.isEmpty = true := by rw [HTL.out, hnm0]; rfl
      have e1 : (x.op == 1) = false := by rw [beq_eq_false_iff_ne]; omega
      have e2 : (x.op == 2) = false := by rw [beq_eq_false_iff_ne]; omega
      have hcl := trivial
      by_cases hk : x.kids.toList.length = 1
      · have k0 : ((x.kids.toList.length : Int) != 1) = false := by rw [bne_eq_false_iff_eq]; omega
        clear hP1 hP2
        have HQA := Lib.hid (show q = x.kids.toList.all (wfP (lv + 1)) by rw [← HQ.out, wfP_good (head_of (by omega) (by omega) (by rw [hc]; exact hk) (by omega) (by omega) (.inl hn0) (by rw [if_neg (by omega)]; exact hnm0)) (by omega)])
        have hlv1 : lv + 1 ≤ 100 := by omega
        clear hcl
        try clear hc
        try clear hk
        try clear hn0
        try clear hnm0
        go_enter Tryd.func31, Tryd.ntmps31
        go_wp2_with fail
        go_loopw [71] (fun i wr => ∃ k : Nat, k ≤ x.kids.toList.length ∧ i = .int .i64 k ∧ (x.kids.toList.drop k).all (wfP (lv + 1)) = q ∧ Below w.heap.size w wr) (fun i _ => x.kids.toList.length - (intOf i).toNat)
        case atStart => exact ⟨0, by omega, rfl, by rw [List.drop_zero]; exact HQA.out.symm, bel_alloc (Below.refl _ _)⟩
        case round =>
          obtain ⟨k, hk, rfl, hqk, hb⟩ := hrel
          have HB := Lib.hid hb
          have HQK := Lib.hid hqk
          have hsz := hb.size
          clear hb hqk
          by_cases hlt : k < x.kids.toList.length
          · have hx : x.kids.toList[k]? = some x.kids.toList[k] := List.getElem?_eq_getElem hlt
            obtain ⟨y, hye⟩ : ∃ y, x.kids.toList[k] = y := ⟨_, rfl⟩
            rw [hye] at hx
            have hym := List.mem_of_getElem? hx
            have HSZ := Lib.hid (kids_size hym)
            have HNY := Lib.hid (nm_mem HNM.out.2 y hym)
            have HAL := Lib.hid (all_take (p := wfP (lv + 1)) hx)
            have hRD := HRD.out.below HB.out (fun b hb => hb.2)
            obtain ⟨b, off, A1, c1, rfl, hS, hyr, hg⟩ := hRD.at_ hx
            have HG := Lib.hid hg
            have HY := Lib.hid ((hyr.upto hsz).allocN (.cells #[.int .i64 y.op, .int .i64 y.n, .string (str y.name), .slice A1 y.kids.toList.length c1] 24))
            clear hx hye hym hRD hyr hg
            go_wp2_with (first
              | ((with_reducible refine ex_load b (off + k * 4) y (.slice A1 y.kids.toList.length c1) ?hx HG.out ?_); (case hx => rfl)))
            refine (HI.out y (by have := HSZ.out; omega) HNY.out (lv + 1) A1 c1 _ hlv1 HY.out).mono ?_
            rintro e w2 ⟨he, hb2⟩
            have HB2 := Lib.hid ((HB.out.alloc hsz _).trans (hb2.mono (by rw [World.size_alloc]; omega)))
            clear hb2
            cases hb : wfP (lv + 1) y with
            | true =>
              rw [hb] at he HAL
              have HK2 := Lib.hid (show (x.kids.toList.drop (k + 1)).all (wfP (lv + 1)) = q by rw [← HQK.out, HAL.out]; rfl)
              subst he
              clear hb
              go_wp2_with fail
              exact ⟨⟨k + 1, by omega, by go_num, HK2.out, HB2.out⟩, by simp [intOf]; omega⟩
            | false =>
              rw [hb] at he HAL
              have hqf : q = false := by rw [← HQK.out, HAL.out]; rfl
              subst hqf
              subst he
              clear hb
              go_wp2_with fail
              go_ret
              exact ⟨rfl, HB2.out⟩
          · have hqt : q = true := by
              rw [← HQK.out, List.drop_eq_nil_of_le (by omega)]; rfl
            subst hqt
            clear HQK
            go_wp2_with fail
            go_ret
            exact ⟨rfl, HB.out⟩
      · have k0 : ((x.kids.toList.length : Int) != 1) = true := by rw [bne_iff_ne]; omega
        have hqf : q = false := by rw [← HQ.out, wfP_not (fun hh => by obtain ⟨o1, o2, o3, o4, o5, o6, o7⟩ := head_facts hh; rw [hc] at o3; exact hk o3)]
        subst hqf
        clear hP1 hP2 hc hn0 hnm0 hk
        go_enter Tryd.func31, Tryd.ntmps31
        go_wp2_with fail
        go_ret
        exact ⟨rfl, bel_alloc (Below.refl _ _)⟩
    · have e3 : (x.op == 9) = false := by rw [beq_eq_false_iff_ne]; omega
      have hn0 : x.n = 0 := Classical.not_not.1 (fun h => hP1 ⟨h, by omega⟩)
      have hnm0 : x.name = [] := Classical.not_not.1 (fun h => hP2 ⟨h, by omega⟩)
      have b1 : (x.n != 0) = false := by rw [bne_eq_false_iff_eq]; exact hn0
      have b3 : (str x.name).toList.isEmpty = true := by rw [HTL.out, hnm0]; rfl
      have e1 : (x.op == 1) = false := by rw [beq_eq_false_iff_ne]; omega
      have e2 : (x.op == 2) = false := by rw [beq_eq_false_iff_ne]; omega
      have hcl := trivial
      by_cases hl : x.op < 1
      · have hqf : q = false := by rw [← HQ.out, wfP_not (fun hh => by obtain ⟨o1, o2, o3, o4, o5, o6, o7⟩ := head_facts hh; omega)]
        subst hqf
        clear hP1 hP2 hc hn0 hnm0
        go_enter Tryd.func31, Tryd.ntmps31
        go_wp2_with fail
        go_ret
        exact ⟨rfl, bel_alloc (Below.refl _ _)⟩
      by_cases hh : 11 < x.op
      · have hqf : q = false := by rw [← HQ.out, wfP_not (fun hh => by obtain ⟨o1, o2, o3, o4, o5, o6, o7⟩ := head_facts hh; omega)]
        subst hqf
        clear hP1 hP2 hc hn0 hnm0
        go_enter Tryd.func31, Tryd.ntmps31
        go_wp2_with fail
        go_ret
        exact ⟨rfl, bel_alloc (Below.refl _ _)⟩
      by_cases hk : x.kids.toList.length = 2
      · have k0 : ((x.kids.toList.length : Int) != 2) = false := by rw [bne_eq_false_iff_eq]; omega
        clear hP1 hP2
        have HQA := Lib.hid (show q = x.kids.toList.all (wfP (lv + 1)) by rw [← HQ.out, wfP_good (head_of (by omega) (by omega) (by rw [takesP, if_neg (by omega), if_neg (by omega)]; exact hk) (by omega) (by omega) (.inl hn0) (by rw [if_neg (by omega)]; exact hnm0)) (by omega)])
        have hlv1 : lv + 1 ≤ 100 := by omega
        clear hcl
        try clear hc
        try clear hk
        try clear hn0
        try clear hnm0
        go_enter Tryd.func31, Tryd.ntmps31
        go_wp2_with fail
        go_loopw [71] (fun i wr => ∃ k : Nat, k ≤ x.kids.toList.length ∧ i = .int .i64 k ∧ (x.kids.toList.drop k).all (wfP (lv + 1)) = q ∧ Below w.heap.size w wr) (fun i _ => x.kids.toList.length - (intOf i).toNat)
        case atStart => exact ⟨0, by omega, rfl, by rw [List.drop_zero]; exact HQA.out.symm, bel_alloc (Below.refl _ _)⟩
        case round =>
          obtain ⟨k, hk, rfl, hqk, hb⟩ := hrel
          have HB := Lib.hid hb
          have HQK := Lib.hid hqk
          have hsz := hb.size
          clear hb hqk
          by_cases hlt : k < x.kids.toList.length
          · have hx : x.kids.toList[k]? = some x.kids.toList[k] := List.getElem?_eq_getElem hlt
            obtain ⟨y, hye⟩ : ∃ y, x.kids.toList[k] = y := ⟨_, rfl⟩
            rw [hye] at hx
            have hym := List.mem_of_getElem? hx
            have HSZ := Lib.hid (kids_size hym)
            have HNY := Lib.hid (nm_mem HNM.out.2 y hym)
            have HAL := Lib.hid (all_take (p := wfP (lv + 1)) hx)
            have hRD := HRD.out.below HB.out (fun b hb => hb.2)
            obtain ⟨b, off, A1, c1, rfl, hS, hyr, hg⟩ := hRD.at_ hx
            have HG := Lib.hid hg
            have HY := Lib.hid ((hyr.upto hsz).allocN (.cells #[.int .i64 y.op, .int .i64 y.n, .string (str y.name), .slice A1 y.kids.toList.length c1] 24))
            clear hx hye hym hRD hyr hg
            go_wp2_with (first
              | ((with_reducible refine ex_load b (off + k * 4) y (.slice A1 y.kids.toList.length c1) ?hx HG.out ?_); (case hx => rfl)))
            refine (HI.out y (by have := HSZ.out; omega) HNY.out (lv + 1) A1 c1 _ hlv1 HY.out).mono ?_
            rintro e w2 ⟨he, hb2⟩
            have HB2 := Lib.hid ((HB.out.alloc hsz _).trans (hb2.mono (by rw [World.size_alloc]; omega)))
            clear hb2
            cases hb : wfP (lv + 1) y with
            | true =>
              rw [hb] at he HAL
              have HK2 := Lib.hid (show (x.kids.toList.drop (k + 1)).all (wfP (lv + 1)) = q by rw [← HQK.out, HAL.out]; rfl)
              subst he
              clear hb
              go_wp2_with fail
              exact ⟨⟨k + 1, by omega, by go_num, HK2.out, HB2.out⟩, by simp [intOf]; omega⟩
            | false =>
              rw [hb] at he HAL
              have hqf : q = false := by rw [← HQK.out, HAL.out]; rfl
              subst hqf
              subst he
              clear hb
              go_wp2_with fail
              go_ret
              exact ⟨rfl, HB2.out⟩
          · have hqt : q = true := by
              rw [← HQK.out, List.drop_eq_nil_of_le (by omega)]; rfl
            subst hqt
            clear HQK
            go_wp2_with fail
            go_ret
            exact ⟨rfl, HB.out⟩
      · have k0 : ((x.kids.toList.length : Int) != 2) = true := by rw [bne_iff_ne]; omega
        have hqf : q = false := by rw [← HQ.out, wfP_not (fun hh => by obtain ⟨o1, o2, o3, o4, o5, o6, o7⟩ := head_facts hh; rw [takesP, if_neg (by omega), if_neg (by omega)] at o3; exact hk o3)]
        subst hqf
        clear hP1 hP2 hc hn0 hnm0 hk
        go_enter Tryd.func31, Tryd.ntmps31
        go_wp2_with fail
        go_ret
        exact ⟨rfl, bel_alloc (Below.refl _ _)⟩

end Go.Proofs.YtkalkglllgebkaaDoor
