/-
  The contracts of the reference's SameRules and Format (sawmillref44).
  The contract of the reference's Parse (sawmillref44).
-/
import Derived.Test.YtkalkglllgebkaaDoorRyF
import Derived.Test.YtkalkglllgebkaaDoorRzS
import Derived.Test.YtkalkglllgebkaaDoorRzD
import Derived.Test.YtkalkglllgebkaaDoorRyE
import Derived.Test.YtkalkglllgebkaaDoorRzL
namespace Saw
theorem drop_rl {l m : List Rl} {k : Nat} {x y : Rl} (h : l[k]? = some x) (h' : m[k]? = some y) : decide (l.drop k = m.drop k) = (decide (x.grade = y.grade) && decide (x.when_ = y.when_) && decide (l.drop (k + 1) = m.drop (k + 1))) := by
  obtain ⟨i1, e1⟩ := List.getElem?_eq_some_iff.1 h
  obtain ⟨i2, e2⟩ := List.getElem?_eq_some_iff.1 h'
  rw [List.drop_eq_getElem_cons i1, List.drop_eq_getElem_cons i2, e1, e2]
  obtain ⟨g, a⟩ := x
  obtain ⟨g', b⟩ := y
  by_cases h1 : g = g' <;> by_cases h2 : a = b <;> simp [h1, h2]
end Saw
namespace Go.Proofs.YtkalkglllgebkaaDoor
open Go.RowKit Saw Go.Sort

set_option maxRecDepth 100000 in
set_option maxHeartbeats 2000000 in
theorem rsameR_any (l m : List Rl) (v u : Value) (w : World) (hra : RdRl w v l) (hrb : RdRl w u m) : Calls Tryd.prog 22 #[v, u] w (BoolB (decide (l = m)) w) := by
  obtain ⟨A, c, rfl, hc1, hml⟩ := hra.form
  obtain ⟨A', c', rfl, hc2, hml'⟩ := hrb.form
  clear hc1 hc2
  unfold maxLen at hml hml'
  have HRA := Lib.hid hra
  have HRB := Lib.hid hrb
  clear hra hrb
  obtain ⟨q, hq⟩ : ∃ q, decide (l = m) = q := ⟨_, rfl⟩
  rw [hq]
  have HQ := Lib.hid hq
  clear hq
  by_cases hl : l.length = m.length
  case neg =>
    have hqf : q = false := by rw [← HQ.out, decide_eq_false_iff_not]; intro e; rw [e] at hl; exact hl rfl
    have b3 : ((l.length : Int) != (m.length : Int)) = true := by rw [bne_iff_ne]; omega
    subst hqf
    clear hl
    go_enter Tryd.func22, Tryd.ntmps22
    go_wp2_with fail
    go_ret
    exact ⟨rfl, Below.refl _ _⟩
  have b3 : ((l.length : Int) != (m.length : Int)) = false := by rw [bne_eq_false_iff_eq]; omega
  have HLL := Lib.hid hl
  clear hl
  have HQD := Lib.hid (show decide (l.drop 0 = m.drop 0) = q by rw [← HQ.out, List.drop_zero, List.drop_zero])
  go_enter Tryd.func22, Tryd.ntmps22
  go_wp2_with fail
  go_loopw [5] (fun i wr => ∃ k : Nat, k ≤ l.length ∧ i = .int .i64 k ∧ decide (l.drop k = m.drop k) = q ∧ Below w.heap.size w wr) (fun i _ => l.length - (intOf i).toNat)
  case atStart => exact ⟨0, by omega, rfl, HQD.out, Below.refl _ _⟩
  case round =>
    obtain ⟨k, hk, rfl, hqk, hb⟩ := hrel
    have HB0 := Lib.hid hb
    have HQK := Lib.hid hqk
    clear hb hqk
    by_cases hlt : k < l.length
    · have hlt' : k < m.length := by have := HLL.out; omega
      have hx : l[k]? = some l[k] := List.getElem?_eq_getElem hlt
      obtain ⟨y, hye⟩ : ∃ y, l[k] = y := ⟨_, rfl⟩
      rw [hye] at hx
      have hx' : m[k]? = some m[k] := List.getElem?_eq_getElem hlt'
      obtain ⟨z, hze⟩ : ∃ z, m[k] = z := ⟨_, rfl⟩
      rw [hze] at hx'
      have HDR := Lib.hid (drop_rl hx hx')
      obtain ⟨ba, oa, A1, c1, rfl, hba, hyr, hg⟩ := (HRA.out.next HB0.out).at_ hx
      obtain ⟨bb, ob, A2, c2, rfl, hbb, hzr, hg'⟩ := (HRB.out.next HB0.out).at_ hx'
      have p0 : wr.cell? ⟨ba, oa + k * 5, none⟩ = some (.int .i64 y.grade) := by have := hg 0 _ rfl; rwa [Nat.add_zero] at this
      have p1 : wr.cell? ⟨bb, ob + k * 5, none⟩ = some (.int .i64 z.grade) := by have := hg' 0 _ rfl; rwa [Nat.add_zero] at this
      have P0 := fun d os => cell_regrown p0 d os
      have P1 := fun d os => cell_regrown p1 d os
      have HG := Lib.hid (show wr.rangeAt ba (oa + k * 5 + 1) (exCells y.when_ (.slice A1 y.when_.kids.toList.length c1)) from rangeAt_of4 (hg 1 _ rfl) (hg 2 _ rfl) (hg 3 _ rfl) (hg 4 _ rfl))
      have HG' := Lib.hid (show wr.rangeAt bb (ob + k * 5 + 1) (exCells z.when_ (.slice A2 z.when_.kids.toList.length c2)) from rangeAt_of4 (hg' 1 _ rfl) (hg' 2 _ rfl) (hg' 3 _ rfl) (hg' 4 _ rfl))
      obtain ⟨mm, hm⟩ : ∃ mm, decide (y.when_ = z.when_) = mm := ⟨_, rfl⟩
      have D1 : Hid (∀ d os, Calls Tryd.prog 16 #[.agg (exCells y.when_ (.slice A1 y.when_.kids.toList.length c1)).toArray, .agg (exCells z.when_ (.slice A2 z.when_.kids.toList.length c2)).toArray] (grow (redrawn wr d) os) fun e w' => e = .returned (.bool mm) ∧ Below (grow (redrawn wr d) os).heap.size (grow (redrawn wr d) os) w') := fun d os => by rw [← hm]; exact rsame_any _ y.when_ z.when_ (Nat.le_refl _) A1 A2 c1 c2 _ (regrown_rd hyr d os) (regrown_rd hzr d os)
      have HM := Lib.hid hm
      have i0 : (0 : Int) ≤ (k : Int) := by omega
      have i1 : (k : Int) < (l.length : Int) := by omega
      have i2 : (k : Int) < (m.length : Int) := by omega
      clear hx hye hx' hze hyr hzr hg hg' hm
      by_cases hgr : y.grade = z.grade
      · have g0 : (y.grade != z.grade) = false := by rw [bne_eq_false_iff_eq]; exact hgr
        have HGR := Lib.hid hgr
        clear hgr
        go_wp2_with fail
        refine wp_region_quiet_below (by kernel_rfl) (by kernel_rfl) ?_
        repeat (first
          | ((with_reducible refine quiet_load ba (oa + k * 5 + 1) (exCells y.when_ (.slice A1 y.when_.kids.toList.length c1)) ?hw ?hx HG.out hba Tryd.underlying24 ?hd ?hi ?_); (case hi => exact ex_info); (case hw => kernel_rfl); (case hx => rfl); (case hd => rfl))
          | ((with_reducible refine quiet_load bb (ob + k * 5 + 1) (exCells z.when_ (.slice A2 z.when_.kids.toList.length c2)) ?hw ?hx HG'.out hbb Tryd.underlying24 ?hd ?hi ?_); (case hi => exact ex_info); (case hw => kernel_rfl); (case hx => rfl); (case hd => rfl))
          | (open Go.BigFrame in go_big_quiet_step ((with_reducible exact Calls.regrown_of (D1.out _ _))))
          | (quiet_step ((with_reducible exact Calls.regrown_of (D1.out _ _)))))
        refine wpQuiet_nil ?_
        rintro w6 ⟨z6, hw6⟩
        have hb6 : Below wr.heap.size wr w6 := by rw [hw6]; exact below_regrown _ _ _
        have HB6 := Lib.hid (HB0.out.trans (hb6.mono HB0.out.size))
        clear hw6 hb6 p0 p1 P0 P1
        cases mm with
        | true =>
          have HN := Lib.hid (show decide (l.drop (k + 1) = m.drop (k + 1)) = q by rw [← HQK.out, HDR.out, HM.out, decide_eq_true HGR.out]; rfl)
          go_wp2_with fail
          exact ⟨⟨k + 1, by omega, by go_num, HN.out, HB6.out⟩, by simp [intOf]; omega⟩
        | false =>
          have hqf : q = false := by rw [← HQK.out, HDR.out, HM.out, Bool.and_false]; rfl
          subst hqf
          go_wp2_with fail
          go_ret
          exact ⟨rfl, HB6.out⟩
      · have g0 : (y.grade != z.grade) = true := by rw [bne_iff_ne]; exact hgr
        have hqf : q = false := by rw [← HQK.out, HDR.out, decide_eq_false hgr]; rfl
        subst hqf
        clear hgr
        go_wp2_with fail
        refine wp_region_quiet_below (by kernel_rfl) (by kernel_rfl) ?_
        repeat (first
          | (open Go.BigFrame in go_big_quiet_step (fail))
          | (quiet_step (fail)))
        refine wpQuiet_nil ?_
        rintro w6 ⟨z6, hw6⟩
        have hb6 : Below wr.heap.size wr w6 := by rw [hw6]; exact below_regrown _ _ _
        have HB6 := Lib.hid (HB0.out.trans (hb6.mono HB0.out.size))
        clear hw6 hb6 p0 p1 P0 P1
        go_wp2_with fail
        go_ret
        exact ⟨rfl, HB6.out⟩
    · have hqt : q = true := by
        rw [← HQK.out, List.drop_eq_nil_of_le (by omega), List.drop_eq_nil_of_le (by have := HLL.out; omega)]; rfl
      subst hqt
      clear HQK
      go_wp2_with fail
      go_ret
      exact ⟨rfl, HB0.out⟩

set_option maxRecDepth 100000 in
set_option maxHeartbeats 2000000 in
theorem rformatR_any (l : List Rl) (v : Value) (w : World) (hrd : RdRl w v l) (hnm : ∀ r ∈ l, NmE 1000000 r.when_) (hdp : ∀ r ∈ l, r.when_.depth ≤ 1000000000) :
    Calls Tryd.prog 20 #[v] w (StrB (formatR l) w) := by
  obtain ⟨A, c, rfl, hc, hml⟩ := hrd.form
  obtain ⟨r, hr⟩ : ∃ r, formatR l = r := ⟨_, rfl⟩
  rw [hr]
  unfold maxLen at hml
  have HR := Lib.hid hr
  have HRD := Lib.hid hrd
  have HNM := Lib.hid hnm
  have HDP := Lib.hid hdp
  clear hr hrd hnm hdp
  by_cases h32 : 32 < l.length
  · have hre : r = [] := by rw [← HR.out, formatR, if_neg (by omega)]
    subst hre
    have h32' : (32 : Int) < (l.length : Int) := by omega
    go_enter Tryd.func20, Tryd.ntmps20
    go_wp2_with fail
    go_ret
    exact ⟨rfl, Below.refl _ _⟩
  · have h32' : ¬ (32 : Int) < (l.length : Int) := by omega
    go_enter Tryd.func20, Tryd.ntmps20
    go_wp2_with fail
    go_loopw [3, 4] (fun o i wr => ∃ k : Nat, k ≤ l.length ∧ i = .int .i64 k ∧ o = .string (str ((l.take k).flatMap ruleText)) ∧ Below w.heap.size w wr ∧ ∀ x ∈ l.take k, ruleOk x = true) (fun _ i _ => l.length - (intOf i).toNat)
    case atStart => exact ⟨0, by omega, rfl, rfl, Below.refl _ _, nofun⟩
    case round =>
      obtain ⟨k, hk, rfl, ho, hb, hall⟩ := hrel
      have HB := Lib.hid hb
      have HALL := Lib.hid hall
      have hacl := rules_len hall
      rw [List.length_take] at hacl
      obtain ⟨acc, hacc⟩ : ∃ acc, (l.take k).flatMap ruleText = acc := ⟨_, rfl⟩
      have hal : acc.length ≤ 32 * 3900 := by rw [← hacc]; omega
      have HACC := Lib.hid hacc
      obtain ⟨so, hso⟩ : ∃ so, str acc = so := ⟨_, rfl⟩
      have hsz : so.size ≤ 32 * 3900 := by rw [← hso, size_str]; exact hal
      have HSO := Lib.hid hso
      rw [hacc, hso] at ho
      subst ho
      clear hb hall hacc hso hacl hal
      by_cases hlt : k < l.length
      · have hx : l[k]? = some l[k] := List.getElem?_eq_getElem hlt
        obtain ⟨x, hxe⟩ : ∃ x, l[k] = x := ⟨_, rfl⟩
        rw [hxe] at hx
        have HNX := Lib.hid (HNM.out x (List.mem_of_getElem? hx))
        have HDX := Lib.hid (HDP.out x (List.mem_of_getElem? hx))
        have HX := Lib.hid hx
        have HMEM := Lib.hid (List.mem_of_getElem? hx)
        obtain ⟨b, off, A1, c1, rfl, hbl, hyr, hg⟩ := (HRD.out.next HB.out).at_ hx
        have HYR := Lib.hid hyr
        have HG := Lib.hid (show wr.rangeAt b (off + k * 5 + 1) (exCells x.when_ (.slice A1 x.when_.kids.toList.length c1)) from rangeAt_of4 (hg 1 _ rfl) (hg 2 _ rfl) (hg 3 _ rfl) (hg 4 _ rfl))
        have HP0 := Lib.hid (show wr.cell? ⟨b, off + k * 5, none⟩ = some (.int .i64 x.grade) by have := hg 0 _ rfl; rwa [Nat.add_zero] at this)
        clear hx hxe hyr hg
        go_wp2_with (first
          | ((with_reducible refine ex_load b (off + k * 5 + 1) x.when_ (.slice A1 x.when_.kids.toList.length c1) ?hx HG.out ?_); (case hx => rfl)))
        refine (rexpr_any x.when_ HNX.out HDX.out A1 c1 wr HYR.out).mono ?_
        rintro e w2 ⟨he, hb2⟩
        obtain ⟨s1, hs1⟩ : ∃ s1, str (exprP x.when_) = s1 := ⟨_, rfl⟩
        rw [hs1] at he
        subst he
        have HSS := Lib.hid hs1
        have HB2 := Lib.hid (HB.out.trans (hb2.mono HB.out.size))
        have p0 : w2.cell? ⟨b, off + k * 5, none⟩ = some (.int .i64 x.grade) := (hb2.cell (p := ⟨b, off + k * 5, none⟩) hbl).trans HP0.out
        have hemp : s1.toList.isEmpty = !(wellP x.when_) := by rw [toList_bts, ← hs1, bts_str, expr_nil]
        clear hb2 hs1 HG
        by_cases hg0 : x.grade < 0
        · have hre : r = [] := by
            rw [← HR.out, formatR, if_neg]
            intro h
            have h1 := List.all_eq_true.1 h.2.1 x HMEM.out
            have := (ruleOk_split h1).1
            omega
          subst hre
          clear hemp
          go_wp2_with fail
          go_ret
          exact ⟨rfl, HB2.out⟩
        · by_cases hg9 : 9 < x.grade
          · have hre : r = [] := by
              rw [← HR.out, formatR, if_neg]
              intro h
              have h1 := List.all_eq_true.1 h.2.1 x HMEM.out
              have := (ruleOk_split h1).2.1
              omega
            subst hre
            clear hemp
            go_wp2_with fail
            go_ret
            exact ⟨rfl, HB2.out⟩
          · obtain ⟨q, hq⟩ : ∃ q, wellP x.when_ = q := ⟨_, rfl⟩
            rw [hq] at hemp
            have HQ := Lib.hid hq
            clear hq
            cases q with
            | false =>
              have hre : r = [] := by
                rw [← HR.out, formatR, if_neg]
                intro h
                have h1 := List.all_eq_true.1 h.2.1 x HMEM.out
                have h2 := (ruleOk_split h1).2.2
                rw [HQ.out] at h2
                cases h2
              subst hre
              have hemp' : s1.toList.isEmpty = true := hemp
              clear hemp
              go_wp2_with fail
              go_ret
              exact ⟨rfl, HB2.out⟩
            | true =>
              have hemp' : s1.toList.isEmpty = false := hemp
              have hok : ruleOk x = true := by rw [ruleOk, HQ.out, decide_eq_true (show 0 ≤ x.grade by omega), decide_eq_true (show x.grade ≤ 9 by omega)]; rfl
              have HOK := Lib.hid hok
              have hs3 : s1.size ≤ 3831 := by rw [← HSS.out, size_str, exprP, if_pos HQ.out]; exact tx_len8 HQ.out
              obtain ⟨s2, hs2⟩ : ∃ s2, str (Lib.itoa x.grade) = s2 := ⟨_, rfl⟩
              have hs4 : s2.size ≤ 21 := by rw [← hs2, size_str]; exact itoa_len21 (by omega) (by omega)
              have HIT := Lib.hid (digits_any x.grade (by omega) (by omega) w2)
              rw [hs2] at HIT
              have HS2S := Lib.hid hs2
              clear hemp hok hs2
              have k0 : ¬ 9223372036854775807 < so.size + 6 := by omega
              have k1 : ¬ 9223372036854775807 < so.size + 6 + s2.size := by omega
              have k2 : ¬ 9223372036854775807 < so.size + 6 + s2.size + 6 := by omega
              have k3 : ¬ 9223372036854775807 < so.size + 6 + s2.size + 6 + s1.size := by omega
              have k4 : ¬ 9223372036854775807 < so.size + 6 + s2.size + 6 + s1.size + 2 := by omega
              go_wp2_with fail
              refine HIT.out.mono ?_
              rintro e w3 ⟨he, rfl⟩
              subst he
              go_wp2_with fail
              refine ⟨⟨k + 1, by omega, by go_num, ?_, HB2.out, ?_⟩, by simp [intOf]; omega⟩
              · rw [List.take_add_one, HX.out, List.flatMap_append, HACC.out]
                rw [show ((some x).toList : List Rl).flatMap ruleText = ruleText x by simp [Option.toList]]
                congr 1
                rw [ruleText, ← HSO.out, ← HSS.out, ← HS2S.out]
                rw [show (⟨#[103, 114, 97, 100, 101, 32]⟩ : ByteArray) = str (gradeW ++ [32]) from rfl, show (⟨#[32, 119, 104, 101, 110, 32]⟩ : ByteArray) = str ([32] ++ whenW ++ [32]) from rfl, show (⟨#[59, 10]⟩ : ByteArray) = str [59, 10] from rfl]
                simp only [str_append, List.append_assoc]
              · intro z hz
                rw [List.take_add_one, HX.out] at hz
                rcases List.mem_append.1 hz with hz | hz
                · exact HALL.out z hz
                · have hzx : z = x := by simpa using hz
                  rw [hzx]; exact HOK.out
      · have hke : k = l.length := by omega
        have HALL2 := Lib.hid (show ∀ x ∈ l, ruleOk x = true by have := HALL.out; rw [hke, List.take_length] at this; exact this)
        have HACC2 := Lib.hid (show l.flatMap ruleText = acc by have := HACC.out; rw [hke, List.take_length] at this; exact this)
        have hsz2 : so.size = acc.length := by rw [← HSO.out, size_str]
        clear hke HALL HACC
        by_cases h8 : 8000 < acc.length
        · have hre : r = [] := by rw [← HR.out, formatR, HACC2.out, if_neg (by omega)]
          subst hre
          have h8' : (8000 : Int) < (so.size : Int) := by omega
          clear h8
          go_wp2_with fail
          go_ret
          exact ⟨rfl, HB.out⟩
        · have hre : r = acc := by rw [← HR.out, formatR, HACC2.out, if_pos ⟨by omega, List.all_eq_true.2 HALL2.out, by omega⟩]
          subst hre
          have h8' : ¬ (8000 : Int) < (so.size : Int) := by omega
          clear h8
          go_wp2_with fail
          go_ret
          exact ⟨by rw [HSO.out]; rfl, HB.out⟩

end Go.Proofs.YtkalkglllgebkaaDoor

namespace Saw
section
variable {xs : List Lx} {k : Nat}
theorem re_grade (h : isWd xs k gradeW = false) : ruleE xs k = .inr (5, (lxAt xs k).off) := by rw [ruleE, if_pos h]
theorem re_big (h : isWd xs k gradeW = true) (h2 : (lxAt xs (k + 1)).kind = 2) (h9 : 9 < (lxAt xs (k + 1)).num) : ruleE xs k = .inr (26, (lxAt xs (k + 1)).off) := by
  rw [ruleE, if_neg (by rw [h]; decide), if_pos ⟨h2, h9⟩]
theorem re_num (h : isWd xs k gradeW = true) (h2 : (lxAt xs (k + 1)).kind ≠ 2) : ruleE xs k = .inr (5, (lxAt xs (k + 1)).off) := by
  rw [ruleE, if_neg (by rw [h]; decide), if_neg (fun h => h2 h.1), if_pos h2]
theorem re_when (h : isWd xs k gradeW = true) (h2 : (lxAt xs (k + 1)).kind = 2) (h9 : ¬ 9 < (lxAt xs (k + 1)).num) (hw : isWd xs (k + 2) whenW = false) : ruleE xs k = .inr (5, (lxAt xs (k + 2)).off) := by
  rw [ruleE, if_neg (by rw [h]; decide), if_neg (fun h => h9 h.2), if_neg (by rw [Classical.not_not]; exact h2), if_pos hw]
theorem re_last (h : isWd xs k gradeW = true) (h2 : (lxAt xs (k + 1)).kind = 2) (h9 : ¬ 9 < (lxAt xs (k + 1)).num) (hw : isWd xs (k + 2) whenW = true) : ruleE xs k = match wholeE xs (k + 3) with
    | .bad er off => .inr (er, off)
    | .ok e k' => if isMk xs k' [59] = false then .inr (5, (lxAt xs k').off) else .inl (⟨(lxAt xs (k + 1)).num, e⟩, k' + 1) := by
  rw [ruleE, if_neg (by rw [h]; decide), if_neg (fun h => h9 h.2), if_neg (by rw [Classical.not_not]; exact h2), if_neg (by rw [hw]; decide)]
  rfl
end
end Saw
namespace Go.Proofs.YtkalkglllgebkaaDoor
open Go.RowKit Saw Go.Sort

/-- What take leaves behind a rule's expression. -/
theorem rule_rel {xs : List Lx} (hX : XrOk xs) {k : Nat} {z : Ex} {s : Rs} (hk0 : k < xs.length) (hk : s.k < xs.length) (h1 : isWd xs k gradeW = true) (h2 : (lxAt xs (k + 1)).kind = 2) (h9 : ¬ 9 < (lxAt xs (k + 1)).num) (hw : isWd xs (k + 2) whenW = true) (h : RfRel (wholeE xs (k + 3)) z s) :
    (takeRf xs s [59]).k < xs.length ∧ (((takeRf xs s [59]).er = 0 ∧ (takeRf xs s [59]).off = 0 ∧ ruleE xs k = .inl (⟨(lxAt xs (k + 1)).num, z⟩, (takeRf xs s [59]).k) ∧ k < (takeRf xs s [59]).k) ∨ ((takeRf xs s [59]).er ≠ 0 ∧ ruleE xs k = .inr ((takeRf xs s [59]).er, (takeRf xs s [59]).off))) := by
  have hr := re_last h1 h2 h9 hw
  cases hwh : wholeE xs (k + 3) with
  | bad er off =>
    rw [hwh] at h hr
    obtain ⟨h0, h1, h2⟩ := h
    have h3 : s.er ≠ 0 := by rw [h1]; exact h0
    have ht : takeRf xs s [59] = s := by
      rw [takeRf, if_neg (by rw [decide_eq_false h3, Bool.false_and]; decide), Rs.fails, if_neg h3]
    rw [ht]
    exact ⟨hk, .inr ⟨h3, by rw [hr, h1, h2]⟩⟩
  | ok e k' =>
    rw [hwh] at h hr
    obtain ⟨rfl, rfl⟩ := h
    rw [takeRf, an_mark hX.2 k' (t := [59]) (by rfl)]
    by_cases hm : isMk xs k' [59] = true
    · rw [if_pos (by rw [hm]; rfl)]
      simp only at hr
      rw [if_neg (by rw [hm]; decide)] at hr
      have := rule_in hX.1.1 hk0 hr
      exact ⟨this.2, .inl ⟨rfl, rfl, hr, this.1⟩⟩
    · rw [if_neg (by simpa using hm)]
      simp only at hr
      rw [if_pos (by simpa using hm)] at hr
      exact ⟨hk, .inr ⟨by show (5 : Int) ≠ 0; decide, hr⟩⟩
theorem take_wd {xs : List Lx} (hX : XrOk xs) {k : Nat} {t : List UInt8} (ht : (readP t 0).1.kind = 1) : takeRf xs ⟨k, 0, 0⟩ t = if isWd xs k t = true then ⟨k + 1, 0, 0⟩ else ⟨k, 5, (lxAt xs k).off⟩ := by
  rw [takeRf, an_word hX.2 k ht]
  cases isWd xs k t <;> rfl
theorem lb_call {w W W' : World} {rb : Nat} (h0 : w.heap.size ≤ rb) (h : Below w.heap.size w W) (hg : W.grownBy W' (some rb)) : Below w.heap.size w W' := h.grown hg h.size (fun k hk => by injection hk with hk; omega)
/-- What holds ahead of a round. -/
def RtRel (w : World) (rb : Nat) (lv : Value) (xs : List Lx) (R : List Rl × Int × Int) (v9 : Value) (wr : World) : Prop :=
  ∃ s : Rs, IsRf wr rb lv s ∧ RdXs wr rb lv xs ∧ Below w.heap.size w wr ∧ s.k < xs.length ∧
    ((s.er = 0 ∧ s.off = 0 ∧ ∃ (m : List (Rl × Value)) (A : Option Addr) (c n : Nat), v9 = .slice A m.length c ∧ RlMem wr (rb + 1) v9 (m.map (·.1)) m ∧ m.length ≤ 32 ∧ xs.length - s.k ≤ n ∧ rulesE xs n s.k (m.map (·.1)) = R) ∨ (s.er ≠ 0 ∧ R = ([], s.er, s.off)))

set_option maxRecDepth 100000 in
set_option maxHeartbeats 4000000 in
theorem rparseR_any (s : ByteArray) (w : World) (hs : s.size ≤ 9223372036854775807) : Calls Tryd.prog 23 #[.string s] w (ParseRPost (parseR (bts s)) w) := by
  obtain ⟨r, hr⟩ : ∃ r, parseR (bts s) = r := ⟨_, rfl⟩
  rw [hr]
  have HR := Lib.hid hr
  clear hr
  go_enter Tryd.func23, Tryd.ntmps23
  go_wp2_with fail
  refine (refScan_any s _ hs).mono ?_
  rintro e w1 ⟨v, he, ho, hb⟩
  obtain ⟨xs, er, at_, hsc⟩ : ∃ xs er at_, scanP (bts s) = (xs, er, at_) := ⟨_, _, _, rfl⟩
  rw [hsc] at he ho
  subst he
  have HB1 := Lib.hid hb
  have hsz1 := hb.size
  clear hb
  by_cases her : er = 0
  case neg =>
    have hre : r = ([], er, at_) := by
      rw [← HR.out, parseR, hsc]
      exact if_pos her
    subst hre
    have hneb : (er != 0) = true := by rw [bne_iff_ne]; exact her
    clear ho hsc her HR
    go_wp2_with fail
    go_ret3
    exact ⟨_, rfl, RdRl.nil _, HB1.out⟩
  subst her
  obtain ⟨rfl, hpos, _, hlen, _, _⟩ := scan_okx hsc
  have HX := Lib.hid (xr_ok hsc)
  have hxm := HX.out.1.2.1
  have HRE := Lib.hid (show rulesE xs xs.length 0 [] = r by
    rw [← HR.out, parseR, hsc]
    simp only [ne_eq, not_true_eq_false, if_false])
  obtain ⟨_, _, A0, cc, rfl, _, _⟩ := id (Rd.of_own ho)
  have hL := (Rd.of_own ho).below ((Below.refl _ _).alloc (Nat.le_refl _) (.cells #[.slice A0 xs.length cc, .int .i64 0, .int .i64 0, .int .i64 0] 71))
  have hP := heap_alloc_last w1 (.cells #[.slice A0 xs.length cc, .int .i64 0, .int .i64 0, .int .i64 0] 71)
  have HB2 := Lib.hid (bel_alloc (ob := .cells #[.slice A0 xs.length cc, .int .i64 0, .int .i64 0, .int .i64 0] 71) HB1.out)
  clear ho hsc HR
  go_upto_region 6 with fail
  obtain ⟨rb, hrb⟩ : ∃ rb, w1.heap.size = rb := ⟨_, rfl⟩
  obtain ⟨W2, hW2⟩ : ∃ W, w1.alloc (.cells #[.slice A0 xs.length cc, .int .i64 0, .int .i64 0, .int .i64 0] 71) = W := ⟨_, rfl⟩
  rw [hW2] at hL hP HB2
  rw [hrb] at hL hP hsz1
  rw [hrb, hW2]
  have HL2 := Lib.hid (show RdXs W2 rb (.slice A0 xs.length cc) xs from hL)
  have HP2 := Lib.hid (show IsRf W2 rb (.slice A0 xs.length cc) ⟨0, 0, 0⟩ from hP)
  clear hL hP HB1 hW2 hrb
  have HLE := Lib.hid hsz1
  go_loopw [9] (fun t9 wr => RtRel w rb (.slice A0 xs.length cc) xs r t9 wr) (fun _ wr => rfLeft rb xs.length wr)
  case atStart => exact ⟨⟨0, 0, 0⟩, HP2.out, HL2.out, HB2.out, hpos, .inl ⟨rfl, rfl, [], none, 0, xs.length, rfl, RlMem.nil _ _, by simp, by simp, HRE.out⟩⟩
  case round =>
    clear HB2 HP2 HL2 HRE
    obtain ⟨s, hrx, hl, hb, hk, hor⟩ := hrel
    have HPOS := Lib.hid (rfLeft_of (len := xs.length) hrx)
    have HRX := Lib.hid hrx
    have HL := Lib.hid hl
    have HB := Lib.hid hb
    clear hrx hl hb
    rcases hor with ⟨her, hoff, m, A, c, n, rfl, hm, hm32, hn, hR⟩ | ⟨her, hre⟩
    case inr =>
      subst hre
      have heb : (s.er == 0) = false := by rw [beq_eq_false_iff_ne]; exact her
      have hec : (s.er != 0) = true := by rw [bne_iff_ne]; exact her
      obtain ⟨c0, c1', c2', c3', f1, f2, f3, hlt1⟩ := HRX.out.cells
      clear her
      go_wp2_with fail
      go_region
      all_goals
        go_wp2_with fail
        go_ret3
        exact ⟨_, rfl, RdRl.nil _, HB.out.drew⟩
    obtain ⟨k, er, off⟩ := s
    simp only at her hoff hk hn hR
    subst her hoff
    have HM := Lib.hid hm
    have HRR := Lib.hid hR
    clear hm hR
    obtain ⟨n', rfl⟩ : ∃ n', n = n' + 1 := ⟨n - 1, by omega⟩
    obtain ⟨y, hy⟩ : ∃ y, lxAt xs k = y := ⟨_, rfl⟩
    have HY := Lib.hid hy
    obtain ⟨c0, c1', c2', c3', f1, f2, f3, hlt1⟩ := HRX.out.cells
    obtain ⟨b, off, cc2, hlv, hcc, hbs, hml, d0, d1, d2, d3⟩ := lx_reads HL.out hk hy
    injection hlv with e1 e2 e3
    subst e1
    subst e3
    have hbs' : b < wr.heap.size := by omega
    clear hy
    by_cases hk0 : y.kind = 0
    · have hkb : (y.kind != 0) = false := by rw [bne_eq_false_iff_eq]; exact hk0
      have hre := rules_end HRR.out (by rw [HY.out]; exact hk0)
      subst hre
      clear hk0 HRR
      go_wp2_with fail
      go_ret3
      exact ⟨_, rfl, HM.out.rd, HB.out⟩
    have hkb : (y.kind != 0) = true := by rw [bne_iff_ne]; exact hk0
    have HK0 := Lib.hid (show ¬ (lxAt xs k).kind = 0 by rw [HY.out]; exact hk0)
    clear hk0
    go_wp2_with fail
    refine (take_rf _ rb _ ⟨k, 0, 0⟩ xs _ HRX.out HL.out hk hxm).mono ?_
    rintro e w2 ⟨he, hg, hr2⟩
    subst he
    rw [show takeRf xs ⟨k, 0, 0⟩ (bts ⟨#[103, 114, 97, 100, 101]⟩) = _ from take_wd HX.out (t := gradeW) (by rfl), HY.out] at hr2
    have HM2 := Lib.hid (HM.out.gb hg (by omega))
    have HL2 := Lib.hid (HL.out.gb hg hlt1)
    have HB2 := Lib.hid (lb_call HLE.out HB.out hg)
    have hsr2 := hg.size
    clear hg d0 d1 d2 d3 c0 c1' c2' c3' f1 f2 f3 HRX HL HB HM hbs'
    obtain ⟨q, hq⟩ : ∃ q, isWd xs k gradeW = q := ⟨_, rfl⟩
    rw [hq] at hr2
    have HQ := Lib.hid hq
    clear hq
    cases q with
    | false =>
      have hre := rules_bad HRR.out HK0.out (fun h => by rw [HQ.out] at h; cases h.1) (re_grade HQ.out)
      rw [HY.out] at hre
      subst hre
      obtain ⟨c0, c1', c2', c3', f1, f2, f3, hltx⟩ := IsRf.cells hr2
      clear hr2
      go_wp2_with fail
      go_region
      all_goals
        go_wp2_with fail
        go_ret3
        exact ⟨_, rfl, RdRl.nil _, HB2.out.drew⟩
    | true =>
    have HR2 := Lib.hid (show IsRf w2 rb _ ⟨k + 1, 0, 0⟩ from hr2)
    have hk1 := isWd_in HX.out.1.1 hk HQ.out
    clear hr2
    obtain ⟨c0, c1', c2', c3', f1, f2, f3, hlt2⟩ := HR2.out.cells
    by_cases h32 : m.length = 32
    · have hre := rules_full HRR.out HK0.out HQ.out (by rw [List.length_map]; exact h32)
      rw [HY.out] at hre
      have h32b : (32 : Int) ≤ (m.length : Int) := by omega
      have HF := Lib.hid (fail_rf w2 rb _ ⟨k + 1, 0, 0⟩ 4 y.off HR2.out)
      clear h32
      go_wp2_with fail
      refine HF.out.mono ?_
      rintro e w3 ⟨he, hg, hr3⟩
      subst he
      have HB3 := Lib.hid (lb_call HLE.out HB2.out hg)
      clear hg HF HR2 HB2 c0 c1' c2' c3' f1 f2 f3
      subst hre
      obtain ⟨c0, c1', c2', c3', f1, f2, f3, hltx⟩ := IsRf.cells hr3
      clear hr3
      go_wp2_with fail
      go_region
      all_goals
        go_wp2_with fail
        go_ret3
        exact ⟨_, rfl, RdRl.nil _, HB3.out.drew⟩
    have h32b : ¬ (32 : Int) ≤ (m.length : Int) := by omega
    have HFUL := Lib.hid (show ¬ (isWd xs k gradeW = true ∧ (m.map (·.1)).length = 32) from fun h => h32 (by have := h.2; rw [List.length_map] at this; exact this))
    obtain ⟨x, hx⟩ : ∃ x, lxAt xs (k + 1) = x := ⟨_, rfl⟩
    have HXX := Lib.hid hx
    obtain ⟨b2, off2, cc3, hlv, hcc3, hbs2, hml2, d0, d1, d2, d3⟩ := lx_reads HL2.out hk1 hx
    injection hlv with e1 e4 e5
    injection e1 with e1
    injection e1 with e1 e6 e7
    subst e1 e6
    subst e5
    have hbs' : b < w2.heap.size := by omega
    have hG3 := heap_alloc_last w2 (.cells #[.int .i64 x.kind, .string (str x.text), .int .i64 x.num, .int .i64 x.off] 49)
    have hR3 := HR2.out.alloc (.cells #[.int .i64 x.kind, .string (str x.text), .int .i64 x.num, .int .i64 x.off] 49)
    have hB3 := bel_alloc (ob := .cells #[.int .i64 x.kind, .string (str x.text), .int .i64 x.num, .int .i64 x.off] 49) HB2.out
    have hL3 := HL2.out.gb (gb_alloc (row := some rb) gb_refl (.cells #[.int .i64 x.kind, .string (str x.text), .int .i64 x.num, .int .i64 x.off] 49)) hlt2
    have hM3 := HM2.out.below ((Below.refl _ _).alloc (Nat.le_refl _) (.cells #[.int .i64 x.kind, .string (str x.text), .int .i64 x.num, .int .i64 x.off] 49))
    have hsz3 : (w2.alloc (.cells #[.int .i64 x.kind, .string (str x.text), .int .i64 x.num, .int .i64 x.off] 49)).heap.size = w2.heap.size + 1 := World.size_alloc _ _
    clear hx h32
    go_upto_region 13 with fail
    obtain ⟨g, hg⟩ : ∃ g, w2.heap.size = g := ⟨_, rfl⟩
    obtain ⟨W3, hW3⟩ : ∃ W, w2.alloc (.cells #[.int .i64 x.kind, .string (str x.text), .int .i64 x.num, .int .i64 x.off] 49) = W := ⟨_, rfl⟩
    rw [hW3] at hG3 hR3 hB3 hL3 hM3 hsz3
    rw [hg] at hG3 hsz3 hlt2
    rw [hg, hW3]
    have HG3 := Lib.hid hG3
    have HR3 := Lib.hid hR3
    have HB3 := Lib.hid hB3
    have HL3 := Lib.hid hL3
    have HM3 := Lib.hid hM3
    clear hG3 hR3 hB3 hL3 hM3 hW3 hg c0 c1' c2' c3' f1 f2 f3 d0 d1 d2 d3 hbs' HR2 HB2 HL2 HM2
    obtain ⟨c0, c1', c2', c3', f1, f2, f3, hlt3⟩ := HR3.out.cells
    obtain ⟨d0, d2, d3⟩ : W3.cell? ⟨g, 0, none⟩ = some (.int .i64 x.kind) ∧ W3.cell? ⟨g, 2, none⟩ = some (.int .i64 x.num) ∧ W3.cell? ⟨g, 3, none⟩ = some (.int .i64 x.off) := ⟨cell_of_box HG3.out rfl, cell_of_box HG3.out rfl, cell_of_box HG3.out rfl⟩
    by_cases h2 : x.kind = 2
    case neg =>
      have h2b : (x.kind != 2) = true := by rw [bne_iff_ne]; exact h2
      have hre := rules_bad HRR.out HK0.out HFUL.out (re_num HQ.out (by rw [HXX.out]; exact h2))
      rw [HXX.out] at hre
      have HF := Lib.hid (fail_rf W3 rb _ ⟨k + 1, 0, 0⟩ 5 x.off HR3.out)
      clear h2
      go_wp2_with fail
      refine HF.out.mono ?_
      rintro e w4 ⟨he, hg, hr4⟩
      subst he
      have HB4 := Lib.hid (lb_call HLE.out HB3.out hg)
      clear hg HF HR3 HB3 c0 c1' c2' c3' f1 f2 f3
      subst hre
      obtain ⟨c0, c1', c2', c3', f1, f2, f3, hltx⟩ := IsRf.cells hr4
      clear hr4
      go_wp2_with fail
      go_region
      all_goals
        go_wp2_with fail
        go_ret3
        exact ⟨_, rfl, RdRl.nil _, HB4.out.drew⟩
    have h2b : (x.kind != 2) = false := by rw [bne_eq_false_iff_eq]; exact h2
    by_cases h9 : 9 < x.num
    · have hre := rules_bad HRR.out HK0.out HFUL.out (re_big HQ.out (by rw [HXX.out]; exact h2) (by rw [HXX.out]; exact h9))
      rw [HXX.out] at hre
      have HF := Lib.hid (fail_rf W3 rb _ ⟨k + 1, 0, 0⟩ 26 x.off HR3.out)
      clear h2
      go_wp2_with fail
      refine HF.out.mono ?_
      rintro e w4 ⟨he, hg, hr4⟩
      subst he
      have HB4 := Lib.hid (lb_call HLE.out HB3.out hg)
      clear hg HF HR3 HB3 c0 c1' c2' c3' f1 f2 f3
      subst hre
      obtain ⟨c0, c1', c2', c3', f1, f2, f3, hltx⟩ := IsRf.cells hr4
      clear hr4
      go_wp2_with fail
      go_region
      all_goals
        go_wp2_with fail
        go_ret3
        exact ⟨_, rfl, RdRl.nil _, HB4.out.drew⟩
    have H9 := Lib.hid (show ¬ 9 < (lxAt xs (k + 1)).num by rw [HXX.out]; exact h9)
    have H2 := Lib.hid (show (lxAt xs (k + 1)).kind = 2 by rw [HXX.out]; exact h2)
    have hk2 : k + 2 < xs.length := lxEnds_next HX.out.1.1 hk1 (by rw [HXX.out, h2]; decide)
    have hmw : IntKind.i64.wrap (((k + 1 : Nat) : Int) + 1) = ((k + 2 : Nat) : Int) := by rw [IntKind.wrap_i64] <;> omega
    clear h2
    go_wp2_with fail
    have hR4 := HR3.out.set (k + 2)
    have hg4 : W3.grownBy (W3.setCell ⟨rb, 1, none⟩ (.int .i64 ((k + 2 : Nat) : Int))) (some rb) := gb_set gb_refl _
    obtain ⟨W4, hW4⟩ : ∃ W, W3.setCell ⟨rb, 1, none⟩ (.int .i64 ((k : Int) + 2)) = W := ⟨_, rfl⟩
    rw [show W3.setCell ⟨rb, 1, none⟩ (.int .i64 ((k + 2 : Nat) : Int)) = W4 from hW4] at hR4 hg4
    have hw4' : W3.setCell ⟨rb, 1, none⟩ (.int .i64 ((k : Int) + 1 + 1)) = W4 := by rw [← hW4, show (k : Int) + 1 + 1 = (k : Int) + 2 by omega]
    first | rw [hW4] | rw [hw4'] | skip
    have HR4 := Lib.hid hR4
    have HB4 := Lib.hid (lb_call HLE.out HB3.out hg4)
    have HL4 := Lib.hid (HL3.out.gb hg4 hlt3)
    have HM4 := Lib.hid (HM3.out.gb hg4 (by omega))
    have HG4 := Lib.hid ((hg4.block g (by omega) (fun e => by injection e with e; omega)).trans HG3.out)
    have hs4 := hg4.size
    clear hR4 hg4 hW4 hw4' HR3 HB3 HL3 HM3 HG3 c0 c1' c2' c3' f1 f2 f3 d0 d2 d3 hmw
    refine (take_rf _ rb _ ⟨k + 2, 0, 0⟩ xs _ HR4.out HL4.out hk2 hxm).mono ?_
    rintro e w5 ⟨he, hg, hr5⟩
    subst he
    rw [show takeRf xs ⟨k + 2, 0, 0⟩ (bts ⟨#[119, 104, 101, 110]⟩) = _ from take_wd HX.out (t := whenW) (by rfl)] at hr5
    obtain ⟨p, hp⟩ : ∃ p, (lxAt xs (k + 2)).off = p := ⟨_, rfl⟩
    rw [hp] at hr5
    have HP := Lib.hid hp
    have HM5 := Lib.hid (HM4.out.gb hg (by omega))
    have HL5 := Lib.hid (HL4.out.gb hg HR4.out.lt)
    have HB5 := Lib.hid (lb_call HLE.out HB4.out hg)
    have HG5 := Lib.hid ((hg.block g (by omega) (fun e => by injection e with e; omega)).trans HG4.out)
    have hsr5 := hg.size
    clear hg HR4 HB4 HL4 HM4 HG4 hp
    obtain ⟨q, hq⟩ : ∃ q, isWd xs (k + 2) whenW = q := ⟨_, rfl⟩
    rw [hq] at hr5
    have HQ2 := Lib.hid hq
    clear hq
    cases q with
    | false =>
      have hre := rules_bad HRR.out HK0.out HFUL.out (re_when HQ.out H2.out (by have := H9.out; omega) HQ2.out)
      rw [HP.out] at hre
      subst hre
      obtain ⟨c0, c1', c2', c3', f1, f2, f3, hltx⟩ := IsRf.cells hr5
      clear hr5
      go_wp2_with fail
      go_region
      all_goals
        go_wp2_with fail
        go_ret3
        exact ⟨_, rfl, RdRl.nil _, HB5.out.drew⟩
    | true =>
    have HR5 := Lib.hid (show IsRf w5 rb _ ⟨k + 2 + 1, 0, 0⟩ from hr5)
    have hk3 := isWd_in HX.out.1.1 hk2 HQ2.out
    clear hr5
    obtain ⟨c0, c1', c2', c3', f1, f2, f3, hlt5⟩ := HR5.out.cells
    go_wp2_with fail
    refine (whole_rf HX.out (k + 2 + 1) hk3 _ rb _ HR5.out HL5.out).mono ?_
    rintro e w6 ⟨hg, z, A6, c6, s6, he, hz, hr6, hk6, hrel⟩
    subst he
    have hsr6 := hg.size
    have hG7 := heap_alloc_last w6 (.cells #[.int .i64 z.op, .int .i64 z.n, .string (str z.name), .slice A6 z.kids.toList.length c6] 24)
    have hR7 := hr6.alloc (.cells #[.int .i64 z.op, .int .i64 z.n, .string (str z.name), .slice A6 z.kids.toList.length c6] 24)
    have hB7 := bel_alloc (ob := .cells #[.int .i64 z.op, .int .i64 z.n, .string (str z.name), .slice A6 z.kids.toList.length c6] 24) (lb_call HLE.out HB5.out hg)
    have hL7 := (HL5.out.gb hg hlt5).gb (gb_alloc (row := some rb) gb_refl (.cells #[.int .i64 z.op, .int .i64 z.n, .string (str z.name), .slice A6 z.kids.toList.length c6] 24)) hr6.lt
    have hM7 := (HM5.out.gb hg (by omega)).below ((Below.refl _ _).alloc (Nat.le_refl _) (.cells #[.int .i64 z.op, .int .i64 z.n, .string (str z.name), .slice A6 z.kids.toList.length c6] 24))
    have hZ7 := (hz.alloc (fun b hb => hb.2) (.cells #[.int .i64 z.op, .int .i64 z.n, .string (str z.name), .slice A6 z.kids.toList.length c6] 24))
    have hX7 := hpA ((hg.block g (by omega) (fun e => by injection e with e; omega)).trans HG5.out) (.cells #[.int .i64 z.op, .int .i64 z.n, .string (str z.name), .slice A6 z.kids.toList.length c6] 24)
    have hsz7 : (w6.alloc (.cells #[.int .i64 z.op, .int .i64 z.n, .string (str z.name), .slice A6 z.kids.toList.length c6] 24)).heap.size = w6.heap.size + 1 := World.size_alloc _ _
    have HREL := Lib.hid (rule_rel HX.out hk hk6 HQ.out H2.out (by have := H9.out; omega) HQ2.out hrel)
    clear hg hz hr6 hrel
    go_upto_region 21 with fail
    obtain ⟨g7, hg7⟩ : ∃ g, w6.heap.size = g := ⟨_, rfl⟩
    obtain ⟨W7, hW7⟩ : ∃ W, w6.alloc (.cells #[.int .i64 z.op, .int .i64 z.n, .string (str z.name), .slice A6 z.kids.toList.length c6] 24) = W := ⟨_, rfl⟩
    rw [hW7] at hG7 hR7 hB7 hL7 hM7 hZ7 hX7 hsz7
    rw [hg7] at hG7 hsz7 hsr6 hZ7
    rw [hg7, hW7]
    have HG7 := Lib.hid hG7
    have HR7 := Lib.hid hR7
    have HB7 := Lib.hid hB7
    have HL7 := Lib.hid hL7
    have HM7 := Lib.hid hM7
    have HZ7 := Lib.hid hZ7
    have HX7 := Lib.hid hX7
    have HOV := Lib.hid (fun g hg => own_rlt HM5.out.2.1 g hg)
    clear hG7 hR7 hB7 hL7 hM7 hZ7 hX7 hW7 hg7 c0 c1' c2' c3' f1 f2 f3 HR5 HB5 HL5 HM5 HG5
    go_wp2_with fail
    refine (take_rf _ rb _ s6 xs _ HR7.out HL7.out hk6 hxm).mono ?_
    rintro e w8 ⟨he, hg, hr8⟩
    subst he
    rw [show bts ⟨#[59]⟩ = [59] from rfl] at hr8
    obtain ⟨s8, hs8⟩ : ∃ s8, takeRf xs s6 [59] = s8 := ⟨_, rfl⟩
    rw [hs8] at hr8 HREL
    have HR8 := Lib.hid hr8
    have HB8 := Lib.hid (lb_call HLE.out HB7.out hg)
    have HL8 := Lib.hid (HL7.out.gb hg HR7.out.lt)
    have HM8 := Lib.hid (HM7.out.gb hg (by omega))
    have HZ8 := Lib.hid ((HZ7.out.gb hg (fun b hb => ⟨by have := hb.1; omega, by have := hb.2; omega⟩)).more (S' := Iv w5.heap.size w8.heap.size) (fun b hb => ⟨hb.1, by have := hb.2; have := hg.size; omega⟩))
    have hG8 := (hg.block g7 (by omega) (fun e => by injection e with e; omega)).trans HG7.out
    have hX8 := (hg.block g (by omega) (fun e => by injection e with e; omega)).trans HX7.out
    have HGE := Lib.hid (show w8.rangeAt g7 0 (exCells z (.slice A6 z.kids.toList.length c6)) from rangeAt_block hG8)
    have d2 : w8.cell? ⟨g, 2, none⟩ = some (.int .i64 x.num) := cell_of_box hX8 rfl
    have hsr8 := hg.size
    obtain ⟨i0, hi0, hq0, hq1, hq2⟩ := info_parts info_rl5
    clear hg hr8 hs8 HR7 HB7 HL7 HM7 HZ7 HG7 HX7 hG8 hX8
    go_wp2_with (first
      | ((with_reducible refine ex_load g7 0 z (.slice A6 z.kids.toList.length c6) ?hx HGE.out ?_); (case hx => rfl))
      | (at_builtin; refine wpList_append_lies _ (by rfl) (.tmp 87) (.tmp 92) 34 (by rfl) (rb + 1) 58 i0 _ 5 64 Tryd.underlying34 hi0 hq0 hq1 hq2 rfl (by omega) (.slice A m.length c) m.length (rlsCells m) (by rfl) (World.ownsRow.alloc HM8.out.2.1 _)
          ⟨w8.heap.size, 0, none⟩ 1 1 (rlCells ⟨x.num, z⟩ (.slice A6 z.kids.toList.length c6)) (by rfl) (by rfl) (World.news_of_block (cs := #[.int .i64 x.num, .int .i64 z.op, .int .i64 z.n, .string (str z.name), .slice A6 z.kids.toList.length c6]) (t := 58) (fr := (0, 0)) (heap_alloc_last w8 _)) (rl_mem ⟨x.num, z⟩ rfl)
          (by omega) (by simp only [maxLen]; omega) (by omega) (by rw [World.size_alloc]; omega) _ rfl ?_; intro gg cap w9 hown9 hgrow9 hat9 hlt9; (try simp only [Act.put, List.setIfInBounds_toArray, List.set_cons_zero, List.set_cons_succ])))
    have hrow : ∀ g, (Value.slice A m.length c).ownBlock = some g → rb < g ∧ g < w5.heap.size := fun g e => by have := HOV.out g e; exact ⟨by omega, this.2⟩
    have hgw9 : w8.grownBy w9 (Value.slice A m.length c).ownBlock := gb_trans (gb_alloc gb_refl _) hgrow9
    have hlt8 := HR8.out.lt
    have hm9 := RlMem.push (x := ⟨x.num, z⟩) HM8.out HZ8.out (by omega) (fun g e => (hrow g e).2) hown9 hgrow9 hat9
    have hr9 : IsRf w9 rb (.slice (some ⟨b, off, none⟩) xs.length cc) s8 := (hgw9.block rb hlt8 (fun e => by have := (hrow _ e.symm).1; omega)).trans HR8.out
    have hl9 : RdXs w9 rb (.slice (some ⟨b, off, none⟩) xs.length cc) xs := HL8.out.row_ hgw9 (fun g e => by have := (hrow g e).1; omega) (by omega)
    have hb9 : Below w.heap.size w w9 := HB8.out.grown hgw9 HB8.out.size (fun g e => by have := (hrow g e).1; have := HLE.out; omega)
    have hp9 := rfLeft_of (len := xs.length) hr9
    have h9p : rfLeft rb xs.length wr = xs.length - k := by simpa using HPOS.out
    obtain ⟨hk8, hor⟩ := HREL.out
    rcases hor with ⟨h0, hoff, hru, hgt⟩ | ⟨h0, hru⟩
    · rw [HXX.out] at hru
      have hre := rules_more HRR.out HK0.out HFUL.out hru
      refine ⟨⟨s8, hr9, hl9, hb9, hk8, .inl ⟨h0, hoff, m ++ [(⟨x.num, z⟩, .slice A6 z.kids.toList.length c6)], some ⟨gg, 0, none⟩, cap, n', by rw [List.length_append]; rfl, by rw [List.map_append]; exact hm9, by rw [List.length_append, List.length_singleton]; omega, by omega, by rw [List.map_append]; exact hre⟩⟩, ?_⟩
      rw [h9p]
      refine Nat.lt_of_le_of_lt (Nat.le_of_eq hp9) ?_
      rw [if_pos h0]
      clear hp9 h9p
      omega
    · have hre := rules_bad HRR.out HK0.out HFUL.out hru
      refine ⟨⟨s8, hr9, hl9, hb9, hk8, .inr ⟨h0, hre.symm⟩⟩, ?_⟩
      rw [h9p]
      refine Nat.lt_of_le_of_lt (Nat.le_of_eq hp9) ?_
      rw [if_neg h0]
      exact Nat.sub_pos_of_lt hk

end Go.Proofs.YtkalkglllgebkaaDoor
