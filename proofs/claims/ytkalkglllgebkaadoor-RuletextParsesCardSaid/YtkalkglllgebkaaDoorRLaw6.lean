/-
  The laws RuletextTables and RuletextParses, walked: Format and Parse are as the reference has them, and invert each other.
-/
import Derived.Test.YtkalkglllgebkaaDoorRLaw4
import Derived.Test.YtkalkglllgebkaaDoorRtB
namespace Saw
theorem format_len (l : List Rl) : (formatR l).length ≤ 8000 := by
  unfold formatR
  split
  · rename_i h; exact h.2.2
  · exact Nat.zero_le _
theorem format_none {l : List Rl} (h : ∀ r ∈ l, ruleOk r = true) (hf : formatR l = l.flatMap ruleText) (hn : formatR l = []) : l = [] := by
  cases l with
  | nil => rfl
  | cons r l =>
    rw [hf, List.flatMap_cons] at hn
    have h1 := (List.append_eq_nil_iff.1 hn).1
    rw [ruleText] at h1
    simp [gradeW] at h1
end Saw
namespace Go.Proofs.YtkalkglllgebkaaDoor
open Go.RowKit Saw Go.Sort

set_option maxRecDepth 100000 in
set_option maxHeartbeats 2000000 in
theorem ruletextTables_walk (l : List Rl) (A : Option Addr) (c : Nat) (w : World) (hl : RdRl w (.slice A l.length c) l) (hv : VarsX w) :
    Calls Tryd.prog 5 #[.slice A l.length c] w (LawX w) := by
  obtain ⟨_, _, _, _, hml⟩ := hl.form
  unfold maxLen at hml
  have HL := Lib.hid hl
  have HV := Lib.hid hv
  clear hl hv
  go_enter Tryd.func5, Tryd.ntmps5
  go_wp2_with fail
  refine (few_any l _ w HL.out).mono ?_
  rintro e w1 ⟨he, hb⟩
  obtain ⟨q, hq⟩ : ∃ q, fewP l = q := ⟨_, rfl⟩
  rw [hq] at he
  subst he
  have HB1 := Lib.hid hb
  have HL1 := Lib.hid (HL.out.next hb)
  have HQ := Lib.hid hq
  clear hb hq HL
  cases q with
  | false =>
    go_wp2_with fail
    refine (awake_any w1 (HV.out.next HB1.out)).mono ?_
    rintro e w2 ⟨he, hb⟩
    subst he
    have HB2 := Lib.hid (bel_call HB1.out hb)
    clear hb
    go_wp2_with fail
    go_ret
    exact ⟨rfl, HB2.out⟩
  | true =>
    have HEA := Lib.hid (few_each HQ.out).2
    have HNM := Lib.hid (show ∀ r ∈ l, NmE 1000000 r.when_ from fun r hr => NmE.up (nodes_nm (x := r.when_) (d := 1) (HEA.out r hr)) (show 200 ≤ 1000000 by decide))
    have HDP := Lib.hid (show ∀ r ∈ l, r.when_.depth ≤ 1000000000 from fun r hr => nodes_depth (HEA.out r hr))
    obtain ⟨s, hs⟩ : ∃ s, formatR l = s := ⟨_, rfl⟩
    have HS := Lib.hid hs
    have hsl := format_len l
    rw [hs] at hsl
    clear hs
    go_wp2_with fail
    refine (formatR_any l _ w1 HL1.out HNM.out (HV.out.next HB1.out)).mono ?_
    rintro e w2 ⟨he, hb⟩
    rw [HS.out] at he
    subst he
    have HB2 := Lib.hid (bel_call HB1.out hb)
    have HL2 := Lib.hid (HL1.out.next hb)
    clear hb HB1 HL1
    go_wp2_with fail
    refine (rformatR_any l _ w2 HL2.out HNM.out HDP.out).mono ?_
    rintro e w3 ⟨he, hb⟩
    rw [HS.out] at he
    subst he
    have HB3 := Lib.hid (bel_call HB2.out hb)
    have HL3 := Lib.hid (HL2.out.next hb)
    clear hb HB2 HL2
    obtain ⟨q, hq⟩ : ∃ q, s.isEmpty = q := ⟨_, rfl⟩
    have hemp : (str s).toList.isEmpty = q := by rw [toList_bts, bts_str, hq]
    have HQE := Lib.hid hq
    clear hq
    cases q with
    | true =>
      go_wp2_with fail
      refine (awake_any w3 (HV.out.next HB3.out)).mono ?_
      rintro e w4 ⟨he, hb⟩
      subst he
      have HB4 := Lib.hid (bel_call HB3.out hb)
      clear hb
      go_wp2_with fail
      go_ret
      exact ⟨rfl, HB4.out⟩
    | false =>
      have HP := Lib.hid (parse_format (l := l) (by rw [HS.out]; intro e; have := HQE.out; rw [e] at this; cases this))
      rw [HS.out] at HP
      have hsz : (str s).size ≤ 9223372036854775807 := by rw [size_str]; omega
      go_wp2_with fail
      refine (parseR_any (str s) w3 hsz).mono ?_
      rintro e w4 ⟨v, he, hrd, hb⟩
      rw [bts_str, HP.out] at he hrd
      subst he
      have HB4 := Lib.hid (bel_call HB3.out hb)
      have HL4 := Lib.hid (HL3.out.next hb)
      have HM4 := Lib.hid (show RdRl w4 v l from hrd)
      clear hb hrd HB3 HL3
      go_wp2_with fail
      refine (rsameR_any l l v _ w4 HM4.out HL4.out).mono ?_
      rintro e w5 ⟨he, hb⟩
      rw [decide_eq_true (rfl : l = l)] at he
      subst he
      have HB5 := Lib.hid (bel_call HB4.out hb)
      clear hb HB4 hemp
      go_wp2_with fail
      refine (awake_any w5 (HV.out.next HB5.out)).mono ?_
      rintro e w6 ⟨he, hb⟩
      subst he
      have HB6 := Lib.hid (bel_call HB5.out hb)
      clear hb
      go_wp2_with fail
      go_ret
      exact ⟨rfl, HB6.out⟩

set_option maxRecDepth 100000 in
set_option maxHeartbeats 2000000 in
theorem ruletextParses_walk (s : ByteArray) (w : World) (hs : s.size ≤ 9223372036854775807) (hv : VarsX w) :
    Calls Tryd.prog 6 #[.string s] w (LawX w) := by
  have HV := Lib.hid hv
  clear hv
  by_cases h3 : 9000 < (s.size : Int)
  · go_enter Tryd.func6, Tryd.ntmps6
    go_wp2_with fail
    refine (awake_any w HV.out).mono ?_
    rintro e w2 ⟨he, hb⟩
    subst he
    have HB := Lib.hid hb
    clear hb
    go_wp2_with fail
    go_ret
    exact ⟨rfl, HB.out⟩
  obtain ⟨r, hr⟩ : ∃ r, parseR (bts s) = r := ⟨_, rfl⟩
  obtain ⟨l, er, off⟩ := r
  have HR := Lib.hid hr
  clear hr
  go_enter Tryd.func6, Tryd.ntmps6
  go_wp2_with fail
  refine (parseR_any s w hs).mono ?_
  rintro e w1 ⟨v, he, hrd, hb⟩
  rw [HR.out] at he hrd
  subst he
  have HB1 := Lib.hid hb
  have HL1 := Lib.hid (show RdRl w1 v l from hrd)
  clear hb hrd
  go_wp2_with fail
  refine (rparseR_any s w1 hs).mono ?_
  rintro e w2 ⟨u, he, hrd, hb⟩
  rw [HR.out] at he hrd
  subst he
  have HB2 := Lib.hid (bel_call HB1.out hb)
  have HL2 := Lib.hid (HL1.out.next hb)
  have HM2 := Lib.hid (show RdRl w2 u l from hrd)
  clear hb hrd HB1 HL1
  have hee : (er != er) = false := by rw [bne_eq_false_iff_eq]
  have hoo : (off != off) = false := by rw [bne_eq_false_iff_eq]
  go_wp2_with fail
  refine (rsameR_any l l v u w2 HL2.out HM2.out).mono ?_
  rintro e w3 ⟨he, hb⟩
  rw [decide_eq_true (rfl : l = l)] at he
  subst he
  have HB3 := Lib.hid (bel_call HB2.out hb)
  have HL3 := Lib.hid (HL2.out.next hb)
  clear hb HB2 HL2 HM2
  by_cases h0 : er = 0
  case neg =>
    have h0' : (er != 0) = true := by rw [bne_iff_ne]; exact h0
    clear h0
    go_wp2_with fail
    refine (awake_any w3 (HV.out.next HB3.out)).mono ?_
    rintro e w4 ⟨he, hb⟩
    subst he
    have HB4 := Lib.hid (bel_call HB3.out hb)
    clear hb
    go_wp2_with fail
    go_ret
    exact ⟨rfl, HB4.out⟩
  subst h0
  by_cases h2 : 2000 < (s.size : Int)
  · go_wp2_with fail
    refine (awake_any w3 (HV.out.next HB3.out)).mono ?_
    rintro e w4 ⟨he, hb⟩
    subst he
    have HB4 := Lib.hid (bel_call HB3.out hb)
    clear hb
    go_wp2_with fail
    go_ret
    exact ⟨rfl, HB4.out⟩
  have hok := parseR_ok HR.out
  have HOK := Lib.hid hok.2.2.1
  have hag := table_again HR.out (by rw [← size_bts]; omega)
  have HFT := Lib.hid hag.1
  have HPA := Lib.hid hag.2
  have HNM := Lib.hid (show ∀ r ∈ l, NmE 1000000 r.when_ from fun r hr => well_nm (ruleOk_split (HOK.out r hr)).2.2)
  obtain ⟨A, c, rfl, hc, hml⟩ := HL3.out.form
  unfold maxLen at hml
  obtain ⟨t, ht⟩ : ∃ t, formatR l = t := ⟨_, rfl⟩
  have htl := format_len l
  rw [ht] at htl
  have HT := Lib.hid ht
  rw [ht] at HPA
  clear hok hag ht
  go_wp2_with fail
  refine (formatR_any l _ w3 HL3.out HNM.out (HV.out.next HB3.out)).mono ?_
  rintro e w4 ⟨he, hb⟩
  rw [HT.out] at he
  subst he
  have HB4 := Lib.hid (bel_call HB3.out hb)
  have HL4 := Lib.hid (HL3.out.next hb)
  have hsz : (str t).size ≤ 9223372036854775807 := by rw [size_str]; omega
  clear hb HB3 HL3
  go_wp2_with fail
  refine (parseR_any (str t) w4 hsz).mono ?_
  rintro e w5 ⟨v5, he, hrd, hb⟩
  rw [bts_str, HPA.out] at he hrd
  subst he
  have HB5 := Lib.hid (bel_call HB4.out hb)
  have HL5 := Lib.hid (HL4.out.next hb)
  have HM5 := Lib.hid (show RdRl w5 v5 l from hrd)
  clear hb hrd HB4 HL4
  obtain ⟨q, hq⟩ : ∃ q, t.isEmpty = q := ⟨_, rfl⟩
  have hemp : (str t).toList.isEmpty = q := by rw [toList_bts, bts_str, hq]
  have hll : q = true → (l.length : Int) == 0 := fun h => by
    have h1 : t = [] := List.isEmpty_iff.1 (hq.trans h)
    have h2 := format_none HOK.out HFT.out (by rw [HT.out, h1])
    rw [h2]
    rfl
  clear hq
  cases q with
  | true =>
    have hl0 := hll rfl
    clear hll
    go_wp2_with fail
    refine (rsameR_any l l v5 _ w5 HM5.out HL5.out).mono ?_
    rintro e w6 ⟨he, hb⟩
    rw [decide_eq_true (rfl : l = l)] at he
    subst he
    have HB6 := Lib.hid (bel_call HB5.out hb)
    clear hb HB5
    go_wp2_with fail
    refine (awake_any w6 (HV.out.next HB6.out)).mono ?_
    rintro e w7 ⟨he, hb⟩
    subst he
    have HB7 := Lib.hid (bel_call HB6.out hb)
    clear hb
    go_wp2_with fail
    go_ret
    exact ⟨rfl, HB7.out⟩
  | false =>
    clear hll
    go_wp2_with fail
    refine (rsameR_any l l v5 _ w5 HM5.out HL5.out).mono ?_
    rintro e w6 ⟨he, hb⟩
    rw [decide_eq_true (rfl : l = l)] at he
    subst he
    have HB6 := Lib.hid (bel_call HB5.out hb)
    clear hb HB5
    go_wp2_with fail
    refine (awake_any w6 (HV.out.next HB6.out)).mono ?_
    rintro e w7 ⟨he, hb⟩
    subst he
    have HB7 := Lib.hid (bel_call HB6.out hb)
    clear hb
    go_wp2_with fail
    go_ret
    exact ⟨rfl, HB7.out⟩

end Go.Proofs.YtkalkglllgebkaaDoor
