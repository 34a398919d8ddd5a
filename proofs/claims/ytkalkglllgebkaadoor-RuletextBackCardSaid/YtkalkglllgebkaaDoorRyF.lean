/-
  The contract of ruletext.Format.
-/
import Derived.Test.YtkalkglllgebkaaDoorRyE
import Derived.Test.YtkalkglllgebkaaDoorRxP
namespace Saw
theorem named_pos {t : List UInt8} (h : namedP t = true) : t ≠ [] := by
  intro e
  subst e
  rw [namedP, Bool.and_eq_true] at h
  have h1 := h.1
  simp [isNameP] at h1
theorem within_ne (x : Ex) (least : Int) (h : (txE x).2 ≠ []) : within (txE x) least ≠ [] := by
  rw [within]
  split
  · intro e; simp at e
  · exact h
theorem tx_ne {x : Ex} (hf : formedE x = true) : (txE x).2 ≠ [] := by
  rcases formed_cases hf with ⟨a1, a2, a3, a4, a5⟩ | ⟨a1, a2, a3, a4⟩ | ⟨a, a1, a2, a3⟩ | ⟨a, b, a1, a2, a3, a4⟩
  · rw [txE_num a1]; intro e; have := itoa_pos x.n; rw [show Go.Lib.itoa x.n = [] from e] at this; simp at this
  · rw [txE_name a1]; exact named_pos a3
  · rw [a2, txE_not]; intro e; simp [notW] at e
  · rw [a2, txE_two a1]; intro e; simp at e
theorem expr_nil (x : Ex) : (exprP x).isEmpty = !(wellP x) := by
  rw [exprP]
  cases h : wellP x with
  | false => rfl
  | true =>
    rw [if_pos rfl]
    have := tx_ne (well_split h).1
    cases hh : (txE x).2 with
    | nil => exact absurd hh this
    | cons a r => rfl
theorem rule_len {r : Rl} (h : ruleOk r = true) : (ruleText r).length ≤ 3900 := by
  obtain ⟨h1, h2, h3⟩ := ruleOk_split h
  have h4 := tx_len8 h3
  have h5 := itoa_len21 (n := r.grade) (by omega) (by omega)
  rw [ruleText, exprP, if_pos h3]
  simp only [List.length_append, List.length_cons, List.length_nil]
  simp only [gradeW, whenW, List.length_cons, List.length_nil]
  omega
theorem rules_len {l : List Rl} (h : ∀ r ∈ l, ruleOk r = true) : (l.flatMap ruleText).length ≤ l.length * 3900 := by
  induction l with
  | nil => simp
  | cons r l ih =>
    rw [List.flatMap_cons, List.length_append, List.length_cons]
    have := rule_len (h r (by simp))
    have := ih fun x hx => h x (by simp [hx])
    omega
end Saw
namespace Go.Proofs.YtkalkglllgebkaaDoor
open Go.RowKit Saw Go.Sort

theorem sb_len (B b : Nat) (l : List UInt8) (w : World) (h : IsSb w B b l) : Calls Tryd.prog 44 #[.pointer (some ⟨b, 0, none⟩)] w fun e w' => e = .returned (.int .i64 l.length) ∧ w' = w := by
  refine (Tryd.Builder_Len_f B b (Lib.byteCells l) w h).mono ?_
  rintro e w' ⟨he, rfl⟩
  rw [Lib.byteCells_length] at he
  exact ⟨he, rfl⟩
section
variable {ops : Array Oper} {rest : List Oper} {d : Option Tmp} {ty : TypeId} {pos : String} {af : Array Edge} {a : Act} {w : World} {Q : Exit → Act → World → Prop} {p q : Operand}
theorem rl_load (b o : Nat) (x : Rl) (sv : Value) (hx : a.eval p = .pointer (some ⟨b, o, none⟩)) (hc : w.rangeAt b o (rlCells x sv))
    (h : wpList Tryd.prog ops Q rest (a.put d (.agg #[.int .i64 x.grade, .int .i64 x.when_.op, .int .i64 x.when_.n, .string (str x.when_.name), sv])) w) : wpList Tryd.prog ops Q (⟨d, .load 58 p, ty, pos, af, none⟩ :: rest) a w :=
  wpList_loadAs b o (rlCells x sv) hx hc Tryd.underlying58 rfl rl_info h
end

set_option maxRecDepth 100000 in
set_option maxHeartbeats 2000000 in
theorem formatR_any (l : List Rl) (v : Value) (w : World) (hrd : RdRl w v l) (hnm : ∀ r ∈ l, NmE 1000000 r.when_) (hv : VarsX w) :
    Calls Tryd.prog 19 #[v] w (StrB (formatR l) w) := by
  obtain ⟨A, c, rfl, hc, hml⟩ := hrd.form
  obtain ⟨r, hr⟩ : ∃ r, formatR l = r := ⟨_, rfl⟩
  rw [hr]
  unfold maxLen at hml
  have HR := Lib.hid hr
  have HRD := Lib.hid hrd
  have HNM := Lib.hid hnm
  have HV := Lib.hid hv
  clear hr hrd hnm hv
  by_cases h32 : 32 < l.length
  · have hre : r = [] := by rw [← HR.out, formatR, if_neg (by omega)]
    subst hre
    go_enter Tryd.func19, Tryd.ntmps19
    go_wp2_with fail
    go_ret
    exact ⟨rfl, Below.refl _ _⟩
  · go_enter Tryd.func19, Tryd.ntmps19
    go_wp2_with fail
    go_loopw [12] (fun i wr => ∃ k : Nat, k ≤ l.length ∧ i = .int .i64 k ∧ IsSb wr w.heap.size w.heap.size ((l.take k).flatMap ruleText) ∧ Below w.heap.size w wr ∧ ∀ x ∈ l.take k, ruleOk x = true) (fun i _ => l.length - (intOf i).toNat)
    case atStart => exact ⟨0, by omega, rfl, sb_new w _ (Nat.le_refl _), bel_alloc (Below.refl _ _), nofun⟩
    case round =>
      obtain ⟨k, hk, rfl, hsb, hb, hall⟩ := hrel
      have hlb := hsb.lt.1
      have HSB := Lib.hid hsb
      have HB := Lib.hid hb
      have HALL := Lib.hid hall
      have hszr := hb.size
      have hacl := rules_len hall
      rw [List.length_take] at hacl
      clear hsb hb hall
      by_cases hlt : k < l.length
      · have hx : l[k]? = some l[k] := List.getElem?_eq_getElem hlt
        obtain ⟨x, hxe⟩ : ∃ x, l[k] = x := ⟨_, rfl⟩
        rw [hxe] at hx
        have HNX := Lib.hid (HNM.out x (List.mem_of_getElem? hx))
        have HX := Lib.hid hx
        have HMEM := Lib.hid (List.mem_of_getElem? hx)
        obtain ⟨b, off, A1, c1, rfl, hbl, hyr, hg⟩ := (HRD.out.next HB.out).at_ hx
        have HG := Lib.hid hg
        obtain ⟨acc, hacc⟩ : ∃ acc, (l.take k).flatMap ruleText = acc := ⟨_, rfl⟩
        have hal : acc.length ≤ 32 * 3900 := by rw [← hacc]; omega
        have HACC := Lib.hid hacc
        rw [hacc] at HSB
        have hV1 := heap_alloc_last wr (.cells #[.int .i64 x.grade, .int .i64 x.when_.op, .int .i64 x.when_.n, .string (str x.when_.name), .slice A1 x.when_.kids.toList.length c1] 58)
        have hB1 := HB.out.alloc hszr (.cells #[.int .i64 x.grade, .int .i64 x.when_.op, .int .i64 x.when_.n, .string (str x.when_.name), .slice A1 x.when_.kids.toList.length c1] 58)
        have hS1 := HSB.out.below ((Below.refl _ _).alloc (Nat.le_refl _) (.cells #[.int .i64 x.grade, .int .i64 x.when_.op, .int .i64 x.when_.n, .string (str x.when_.name), .slice A1 x.when_.kids.toList.length c1] 58))
        have hY1 := hyr.allocN (.cells #[.int .i64 x.grade, .int .i64 x.when_.op, .int .i64 x.when_.n, .string (str x.when_.name), .slice A1 x.when_.kids.toList.length c1] 58)
        clear hx hxe hyr hg hacc hacl
        go_upto_region 7 with (first
          | ((with_reducible refine rl_load b (off + k * 5) x (.slice A1 x.when_.kids.toList.length c1) ?hx HG.out ?_); (case hx => rfl)))
        obtain ⟨N, hN⟩ : ∃ N, wr.heap.size = N := ⟨_, rfl⟩
        obtain ⟨V, hV⟩ : ∃ V, wr.alloc (.cells #[.int .i64 x.grade, .int .i64 x.when_.op, .int .i64 x.when_.n, .string (str x.when_.name), .slice A1 x.when_.kids.toList.length c1] 58) = V := ⟨_, rfl⟩
        rw [hV] at hV1 hB1 hS1 hY1 ⊢
        rw [hN] at hV1 ⊢
        have HV1 := Lib.hid hV1
        have HB1 := Lib.hid hB1
        have HS1 := Lib.hid hS1
        have HY1 := Lib.hid hY1
        have HGV := Lib.hid (show V.rangeAt N 1 (exCells x.when_ (.slice A1 x.when_.kids.toList.length c1)) from rangeAt_of4 (cell_of_box hV1 rfl) (cell_of_box hV1 rfl) (cell_of_box hV1 rfl) (cell_of_box hV1 rfl))
        have hNV := (Array.getElem?_eq_some_iff.1 hV1).1
        clear hV1 hB1 hS1 hY1 hV hN HSB HB
        go_wp2_with (first
          | ((with_reducible refine ex_load N 1 x.when_ (.slice A1 x.when_.kids.toList.length c1) ?hx HGV.out ?_); (case hx => rfl)))
        refine (expr_any x.when_ HNX.out A1 c1 V (HV.out.next HB1.out) HY1.out).mono ?_
        rintro e w2 ⟨he, hb2⟩
        obtain ⟨s1, hs1⟩ : ∃ s1, str (exprP x.when_) = s1 := ⟨_, rfl⟩
        rw [hs1] at he
        subst he
        have HSS := Lib.hid hs1
        have hB2 := HB1.out.trans (hb2.mono HB1.out.size)
        have HB2 := Lib.hid hB2
        have hsz2 := hB2.size
        have HS2 := Lib.hid (HS1.out.below hb2)
        have p0 : w2.cell? ⟨N, 0, none⟩ = some (.int .i64 x.grade) := (hb2.cell (p := ⟨N, 0, none⟩) hNV).trans (cell_of_box HV1.out rfl)
        have hemp : s1.toList.isEmpty = !(wellP x.when_) := by rw [toList_bts, ← hs1, bts_str, expr_nil]
        clear hb2 hs1 hB2 HB1 HS1 HGV HV1
        by_cases hg0 : x.grade < 0
        · have hre : r = [] := by
            rw [← HR.out, formatR, if_neg]
            intro h
            have h1 := List.all_eq_true.1 h.2.1 x HMEM.out
            have := (ruleOk_split h1).1
            omega
          subst hre
          clear hemp
          go_wp2_with fail
          go_ret
          exact ⟨rfl, HB2.out⟩
        · by_cases hg9 : 9 < x.grade
          · have hre : r = [] := by
              rw [← HR.out, formatR, if_neg]
              intro h
              have h1 := List.all_eq_true.1 h.2.1 x HMEM.out
              have := (ruleOk_split h1).2.1
              omega
            subst hre
            clear hemp
            go_wp2_with fail
            go_ret
            exact ⟨rfl, HB2.out⟩
          · obtain ⟨q, hq⟩ : ∃ q, wellP x.when_ = q := ⟨_, rfl⟩
            rw [hq] at hemp
            have HQ := Lib.hid hq
            clear hq
            cases q with
            | false =>
              have hre : r = [] := by
                rw [← HR.out, formatR, if_neg]
                intro h
                have h1 := List.all_eq_true.1 h.2.1 x HMEM.out
                have h2 := (ruleOk_split h1).2.2
                rw [HQ.out] at h2
                cases h2
              subst hre
              have hemp' : s1.toList.isEmpty = true := hemp
              clear hemp
              go_wp2_with fail
              go_ret
              exact ⟨rfl, HB2.out⟩
            | true =>
              have hemp' : s1.toList.isEmpty = false := hemp
              have hok : ruleOk x = true := by rw [ruleOk, HQ.out, decide_eq_true (show 0 ≤ x.grade by omega), decide_eq_true (show x.grade ≤ 9 by omega)]; rfl
              have HOK := Lib.hid hok
              have hs3 : s1.size ≤ 3831 := by rw [← HSS.out, size_str, exprP, if_pos HQ.out]; exact tx_len8 HQ.out
              obtain ⟨s2, hs2⟩ : ∃ s2, str (Lib.itoa x.grade) = s2 := ⟨_, rfl⟩
              have hs4 : s2.size ≤ 21 := by rw [← hs2, size_str]; exact itoa_len21 (by omega) (by omega)
              have HIT := Lib.hid (show Calls Tryd.prog 43 #[.int .i64 x.grade] w2 fun e w' => e = .returned (.string s2) ∧ Below w2.heap.size w2 w' by rw [← hs2]; exact itoa_any x.grade w2 (by omega) (by omega) (HV.out.next HB2.out).2.1)
              have HS2S := Lib.hid hs2
              clear hemp hok hs2
              have k1 : ¬ 9223372036854775807 < 6 + s2.size := by omega
              have k2 : ¬ 9223372036854775807 < 6 + s2.size + 6 := by omega
              have k3 : ¬ 9223372036854775807 < 6 + s2.size + 6 + s1.size := by omega
              have k4 : ¬ 9223372036854775807 < 6 + s2.size + 6 + s1.size + 2 := by omega
              go_wp2_with fail
              refine HIT.out.mono ?_
              rintro e w3 ⟨he, hb3⟩
              subst he
              have hB3 := HB2.out.trans (hb3.mono HB2.out.size)
              have HB3 := Lib.hid hB3
              have hsz3 := hB3.size
              have HS3 := Lib.hid (HS2.out.below hb3)
              clear hb3 hB3 p0
              go_wp2_with fail
              refine (sb_write w.heap.size w.heap.size acc _ _ HS3.out (by simp only [ByteArray.size_append]; have h_1 : (⟨#[103, 114, 97, 100, 101, 32]⟩ : ByteArray).size = 6 := rfl; have h_2 : (⟨#[32, 119, 104, 101, 110, 32]⟩ : ByteArray).size = 6 := rfl; have h_3 : (⟨#[59, 10]⟩ : ByteArray).size = 2 := rfl; omega) hsz3).mono ?_
              rintro e w4 ⟨rfl, hsb4, hb4, _⟩
              have HSB4 := Lib.hid hsb4
              have HB4 := Lib.hid (HB3.out.trans hb4)
              clear hsb4 hb4
              go_wp2_with fail
              refine ⟨⟨k + 1, by omega, by go_num, ?_, HB4.out, ?_⟩, by simp [intOf]; omega⟩
              · have h9 := HSB4.out
                rw [List.take_add_one, HX.out, List.flatMap_append, HACC.out]
                simp only [bts_append, ← HSS.out, ← HS2S.out, bts_str] at h9
                rw [show ((some x).toList : List Rl).flatMap ruleText = ruleText x by simp [Option.toList]]
                rw [ruleText]
                rw [show bts ⟨#[103, 114, 97, 100, 101, 32]⟩ = gradeW ++ [32] from rfl, show bts ⟨#[32, 119, 104, 101, 110, 32]⟩ = [32] ++ whenW ++ [32] from rfl, show bts ⟨#[59, 10]⟩ = [59, 10] from rfl] at h9
                simpa only [List.append_assoc] using h9
              · intro z hz
                rw [List.take_add_one, HX.out] at hz
                rcases List.mem_append.1 hz with hz | hz
                · exact HALL.out z hz
                · have hzx : z = x := by simpa using hz
                  rw [hzx]; exact HOK.out
      · have hke : k = l.length := by omega
        have HALL2 := Lib.hid (show ∀ x ∈ l, ruleOk x = true by have := HALL.out; rw [hke, List.take_length] at this; exact this)
        have HSB2 := Lib.hid (show IsSb wr w.heap.size w.heap.size (l.flatMap ruleText) by have := HSB.out; rw [hke, List.take_length] at this; exact this)
        obtain ⟨acc, hacc⟩ : ∃ acc, l.flatMap ruleText = acc := ⟨_, rfl⟩
        rw [hacc] at HSB2
        have HACC := Lib.hid hacc
        clear hacc hke hacl HSB HALL
        go_wp2_with fail
        refine (sb_len _ _ _ _ HSB2.out).mono ?_
        rintro e w2 ⟨he, hw2⟩
        subst hw2
        subst he
        by_cases h8 : 8000 < acc.length
        · have hre : r = [] := by rw [← HR.out, formatR, HACC.out, if_neg (by omega)]
          subst hre
          have h8' : (8000 : Int) < (acc.length : Int) := by omega
          clear h8
          go_wp2_with fail
          go_ret
          exact ⟨rfl, HB.out⟩
        · have hre : r = acc := by rw [← HR.out, formatR, HACC.out, if_pos ⟨by omega, List.all_eq_true.2 HALL2.out, by omega⟩]
          subst hre
          have h8' : ¬ (8000 : Int) < (r.length : Int) := by omega
          clear h8
          go_wp2_with fail
          refine (sb_string w.heap.size w.heap.size r _ HSB2.out hszr).mono ?_
          rintro e w7 ⟨rfl, hb7⟩
          have HB7 := Lib.hid (HB.out.trans hb7)
          clear hb7
          go_wp2_with fail
          go_ret
          exact ⟨rfl, HB7.out⟩

end Go.Proofs.YtkalkglllgebkaaDoor
