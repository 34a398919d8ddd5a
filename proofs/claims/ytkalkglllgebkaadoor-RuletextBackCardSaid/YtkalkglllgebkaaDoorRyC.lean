/-
  The contracts of ruletext.Expr and ruletext.Same.
-/
import Derived.Test.YtkalkglllgebkaaDoorRyB
namespace Saw
theorem ex_eq {a b : Ex} (h1 : a.op = b.op) (h2 : a.n = b.n) (h3 : a.name = b.name) : decide (a.kids.toList = b.kids.toList) = decide (a = b) := by
  rw [Bool.eq_iff_iff, decide_eq_true_eq, decide_eq_true_eq]
  constructor
  · intro h
    obtain ⟨_, _, _, _⟩ := a
    obtain ⟨_, _, _, _⟩ := b
    simp only at h1 h2 h3 h
    rw [h1, h2, h3, Fo.toList_inj h]
  · intro h; rw [h]
theorem drop_eq {l m : List Ex} {k : Nat} {y z : Ex} (h : l[k]? = some y) (h' : m[k]? = some z) : decide (l.drop k = m.drop k) = (decide (y = z) && decide (l.drop (k + 1) = m.drop (k + 1))) := by
  obtain ⟨hk, hn⟩ := List.getElem?_eq_some_iff.1 h
  obtain ⟨hk', hn'⟩ := List.getElem?_eq_some_iff.1 h'
  rw [List.drop_eq_getElem_cons hk, hn, List.drop_eq_getElem_cons hk', hn', Bool.eq_iff_iff]
  simp
theorem wfP_one (x : Ex) : wfP 1 x = wellP x := by
  rw [wfP, wellP]
  congr 1
  rw [Bool.eq_iff_iff, decide_eq_true_eq, decide_eq_true_eq]
  omega
theorem within_zero (x : Ex) : within (txE x) 0 = (txE x).2 := by
  have h : (txE x).1 = ownP x.op := rfl
  rw [within, h, if_neg]
  unfold ownP
  repeat' split
  all_goals omega
end Saw
namespace Go.Proofs.YtkalkglllgebkaaDoor
open Go.RowKit Saw Go.Sort

set_option maxRecDepth 100000 in
set_option maxHeartbeats 1000000 in
theorem expr_any (x : Ex) (hnm : NmE 1000000 x) (A : Option Addr) (c : Nat) (w : World) (hv : VarsX w) (hrd : RdFo w (Iv 0 w.heap.size) (.slice A x.kids.toList.length c) x.kids) :
    Calls Tryd.prog 13 #[.agg #[.int .i64 x.op, .int .i64 x.n, .string (str x.name), .slice A x.kids.toList.length c]] w (StrB (exprP x) w) := by
  have hb := bel_alloc (ob := .cells #[.int .i64 x.op, .int .i64 x.n, .string (str x.name), .slice A x.kids.toList.length c] 24) (Below.refl w.heap.size w)
  have HW := Lib.hid (wf_any x.size x (Nat.le_refl _) hnm 1 A c _ (by omega) (hrd.next hb))
  have HG0 := rangeAt_block (heap_alloc_last w (.cells #[.int .i64 x.op, .int .i64 x.n, .string (str x.name), .slice A x.kids.toList.length c] 24))
  have HB := Lib.hid hb
  have HV := Lib.hid (hv.next hb)
  have HR := Lib.hid (hrd.next hb)
  have HSZ := Lib.hid (Array.getElem?_eq_some_iff.1 (heap_alloc_last w (.cells #[.int .i64 x.op, .int .i64 x.n, .string (str x.name), .slice A x.kids.toList.length c] 24))).1
  clear hv hrd hb
  rw [wfP_one] at HW
  obtain ⟨q, hq⟩ : ∃ q, wellP x = q := ⟨_, rfl⟩
  rw [hq] at HW
  go_enter Tryd.func13, Tryd.ntmps13
  go_upto_region 1 with fail
  obtain ⟨n0, hn0⟩ : ∃ n, w.heap.size = n := ⟨_, rfl⟩
  obtain ⟨W0, hW0⟩ : ∃ W, w.alloc (.cells #[.int .i64 x.op, .int .i64 x.n, .string (str x.name), .slice A x.kids.toList.length c] 24) = W := ⟨_, rfl⟩
  rw [hW0] at HW HG0 HB HV HR HSZ ⊢
  rw [hn0] at HG0 HSZ ⊢
  have HG := Lib.hid (show W0.rangeAt n0 0 (exCells x (.slice A x.kids.toList.length c)) from HG0)
  clear HG0 hW0 hn0
  go_wp2_with (first
    | ((with_reducible refine ex_load n0 0 x (.slice A x.kids.toList.length c) ?hx HG.out ?_); (case hx => rfl)))
  refine HW.out.mono ?_
  rintro e w1 ⟨he, hb⟩
  subst he
  have HB1 := Lib.hid (HB.out.trans (hb.mono HB.out.size))
  have HV1 := Lib.hid (HV.out.next hb)
  have HR1 := Lib.hid (HR.out.next hb)
  have HG1 := Lib.hid (rangeAt_below hb HSZ.out HG.out)
  clear hb
  cases q with
  | false =>
    have HE := Lib.hid (show exprP x = [] by rw [exprP, if_neg (by rw [hq]; decide)])
    go_wp2_with fail
    go_ret
    exact ⟨by rw [HE.out]; rfl, HB1.out⟩
  | true =>
    have HE := Lib.hid (show exprP x = within (txE x) 0 by rw [exprP, if_pos hq, within_zero])
    have HT := Lib.hid (text_any x.size x (Nat.le_refl _) hq 0 A c w1 HV1.out HR1.out)
    clear hq
    go_wp2_with (first
      | ((with_reducible refine ex_load n0 0 x (.slice A x.kids.toList.length c) ?hx HG1.out ?_); (case hx => rfl)))
    refine HT.out.mono ?_
    rintro e w2 ⟨he, hb⟩
    subst he
    have HB2 := Lib.hid (HB1.out.trans (hb.mono HB1.out.size))
    clear hb
    go_wp2_with fail
    go_ret
    exact ⟨by rw [HE.out]; rfl, HB2.out⟩

set_option maxRecDepth 100000 in
set_option maxHeartbeats 2000000 in
theorem same_any : ∀ (N : Nat) (a b : Ex), a.size ≤ N → ∀ (A A' : Option Addr) (c c' : Nat) (w : World), RdFo w (Iv 0 w.heap.size) (.slice A a.kids.toList.length c) a.kids → RdFo w (Iv 0 w.heap.size) (.slice A' b.kids.toList.length c') b.kids →
    Calls Tryd.prog 24 #[.agg #[.int .i64 a.op, .int .i64 a.n, .string (str a.name), .slice A a.kids.toList.length c], .agg #[.int .i64 b.op, .int .i64 b.n, .string (str b.name), .slice A' b.kids.toList.length c']] w (BoolB (decide (a = b)) w) := by
  intro N
  induction N with
  | zero => intro a b h; simp only [Ex.size] at h; omega
  | succ N ih =>
    intro a b hN A A' c c' w hra hrb
    obtain ⟨_, _, _, hc1, hml⟩ := hra.form
    obtain ⟨_, _, _, hc2, hml'⟩ := hrb.form
    clear hc1 hc2
    unfold maxLen at hml hml'
    have HRA := Lib.hid hra
    have HRB := Lib.hid hrb
    have HI := Lib.hid ih
    clear ih hra hrb
    obtain ⟨q, hq⟩ : ∃ q, decide (a = b) = q := ⟨_, rfl⟩
    rw [hq]
    have HQ := Lib.hid hq
    clear hq
    have HTA := Lib.hid (show (str a.name).toList = a.name by rw [toList_bts, bts_str])
    have HTB := Lib.hid (show (str b.name).toList = b.name by rw [toList_bts, bts_str])
    by_cases hop : a.op = b.op
    case neg =>
      have hqf : q = false := by rw [← HQ.out, decide_eq_false_iff_not]; intro e; rw [e] at hop; exact hop rfl
      have b0 : (a.op != b.op) = true := by rw [bne_iff_ne]; exact hop
      subst hqf
      clear hop
      go_enter Tryd.func24, Tryd.ntmps24
      go_wp2_with fail
      go_ret
      exact ⟨rfl, bel_alloc (bel_alloc (Below.refl _ _))⟩
    have b0 : (a.op != b.op) = false := by rw [bne_eq_false_iff_eq]; exact hop
    have Hhop := Lib.hid hop
    clear hop
    by_cases hn : a.n = b.n
    case neg =>
      have hqf : q = false := by rw [← HQ.out, decide_eq_false_iff_not]; intro e; rw [e] at hn; exact hn rfl
      have b1 : (a.n != b.n) = true := by rw [bne_iff_ne]; exact hn
      subst hqf
      clear hn
      go_enter Tryd.func24, Tryd.ntmps24
      go_wp2_with fail
      go_ret
      exact ⟨rfl, bel_alloc (bel_alloc (Below.refl _ _))⟩
    have b1 : (a.n != b.n) = false := by rw [bne_eq_false_iff_eq]; exact hn
    have Hhn := Lib.hid hn
    clear hn
    by_cases hm : a.name = b.name
    case neg =>
      have hqf : q = false := by rw [← HQ.out, decide_eq_false_iff_not]; intro e; rw [e] at hm; exact hm rfl
      have b2 : ¬ (str a.name).toList = (str b.name).toList := by rw [HTA.out, HTB.out]; exact hm
      subst hqf
      clear hm
      go_enter Tryd.func24, Tryd.ntmps24
      go_wp2_with fail
      go_ret
      exact ⟨rfl, bel_alloc (bel_alloc (Below.refl _ _))⟩
    have b2 : (str a.name).toList = (str b.name).toList := by rw [HTA.out, HTB.out]; exact hm
    have Hhm := Lib.hid hm
    clear hm
    by_cases hl : a.kids.toList.length = b.kids.toList.length
    case neg =>
      have hqf : q = false := by rw [← HQ.out, decide_eq_false_iff_not]; intro e; rw [e] at hl; exact hl rfl
      have b3 : ((a.kids.toList.length : Int) != (b.kids.toList.length : Int)) = true := by rw [bne_iff_ne]; omega
      subst hqf
      clear hl
      go_enter Tryd.func24, Tryd.ntmps24
      go_wp2_with fail
      go_ret
      exact ⟨rfl, bel_alloc (bel_alloc (Below.refl _ _))⟩
    have b3 : ((a.kids.toList.length : Int) != (b.kids.toList.length : Int)) = false := by rw [bne_eq_false_iff_eq]; omega
    have Hhl := Lib.hid hl
    clear hl
    have HQD := Lib.hid (show decide (a.kids.toList.drop 0 = b.kids.toList.drop 0) = q by rw [← HQ.out, List.drop_zero, List.drop_zero]; exact ex_eq Hhop.out Hhn.out Hhm.out)
    have hB := bel_alloc (ob := .cells #[.int .i64 b.op, .int .i64 b.n, .string (str b.name), .slice A' b.kids.toList.length c'] 24) (bel_alloc (ob := .cells #[.int .i64 a.op, .int .i64 a.n, .string (str a.name), .slice A a.kids.toList.length c] 24) (Below.refl w.heap.size w))
    have hR1 := hpA (heap_alloc_last w (.cells #[.int .i64 a.op, .int .i64 a.n, .string (str a.name), .slice A a.kids.toList.length c] 24)) (.cells #[.int .i64 b.op, .int .i64 b.n, .string (str b.name), .slice A' b.kids.toList.length c'] 24)
    have hR2 := heap_alloc_last (w.alloc (.cells #[.int .i64 a.op, .int .i64 a.n, .string (str a.name), .slice A a.kids.toList.length c] 24)) (.cells #[.int .i64 b.op, .int .i64 b.n, .string (str b.name), .slice A' b.kids.toList.length c'] 24)
    rw [World.size_alloc] at hR2
    go_enter Tryd.func24, Tryd.ntmps24
    go_wp2_with fail
    obtain ⟨n0, hn0⟩ : ∃ n, w.heap.size = n := ⟨_, rfl⟩
    obtain ⟨W0, hW0⟩ : ∃ W, (w.alloc (.cells #[.int .i64 a.op, .int .i64 a.n, .string (str a.name), .slice A a.kids.toList.length c] 24)).alloc (.cells #[.int .i64 b.op, .int .i64 b.n, .string (str b.name), .slice A' b.kids.toList.length c'] 24) = W := ⟨_, rfl⟩
    rw [hW0] at hB hR1 hR2 ⊢
    have HRA0 := Lib.hid (HRA.out.next hB)
    have HRB0 := Lib.hid (HRB.out.next hB)
    have HB := Lib.hid hB
    have hsz0 := hB.size
    rw [hn0] at hR1 hR2 ⊢
    have HR1 := Lib.hid hR1
    have HR2 := Lib.hid hR2
    clear hB hR1 hR2 hW0 hn0 hsz0
    go_loopw [37] (fun i wr => ∃ k : Nat, k ≤ a.kids.toList.length ∧ i = .int .i64 k ∧ decide (a.kids.toList.drop k = b.kids.toList.drop k) = q ∧ Below W0.heap.size W0 wr) (fun i _ => a.kids.toList.length - (intOf i).toNat)
    case atStart => exact ⟨0, by omega, rfl, HQD.out, Below.refl _ _⟩
    case round =>
      obtain ⟨k, hk, rfl, hqk, hb⟩ := hrel
      have HB0 := Lib.hid hb
      have HQK := Lib.hid hqk
      have hsz := hb.size
      have HLL := Lib.hid (Hhl.out)
      have r1 : wr.cell? ⟨n0, 3, none⟩ = some (.slice A a.kids.toList.length c) := (hb.cell (p := ⟨n0, 3, none⟩) (Array.getElem?_eq_some_iff.1 HR1.out).1).trans (cell_of_box HR1.out rfl)
      have r2 : wr.cell? ⟨n0 + 1, 3, none⟩ = some (.slice A' b.kids.toList.length c') := (hb.cell (p := ⟨n0 + 1, 3, none⟩) (Array.getElem?_eq_some_iff.1 HR2.out).1).trans (cell_of_box HR2.out rfl)
      clear hb hqk
      by_cases hlt : k < a.kids.toList.length
      · have hlt' : k < b.kids.toList.length := by have := HLL.out; omega
        have hx : a.kids.toList[k]? = some a.kids.toList[k] := List.getElem?_eq_getElem hlt
        obtain ⟨y, hye⟩ : ∃ y, a.kids.toList[k] = y := ⟨_, rfl⟩
        rw [hye] at hx
        have hx' : b.kids.toList[k]? = some b.kids.toList[k] := List.getElem?_eq_getElem hlt'
        obtain ⟨z, hze⟩ : ∃ z, b.kids.toList[k] = z := ⟨_, rfl⟩
        rw [hze] at hx'
        have HSZ := Lib.hid (kids_size (List.mem_of_getElem? hx))
        have HDR := Lib.hid (drop_eq hx hx')
        obtain ⟨ba, oa, A1, c1, rfl, hS1, hyr, hg⟩ := (HRA0.out.next HB0.out).at_ hx
        obtain ⟨bb, ob, A2, c2, rfl, hS2, hzr, hg'⟩ := (HRB0.out.next HB0.out).at_ hx'
        have HG := Lib.hid hg
        have HG' := Lib.hid hg'
        have hba : ba < wr.heap.size := hS1.2
        have hbb : bb < wr.heap.size := hS2.2
        obtain ⟨m, hm⟩ : ∃ m, decide (y = z) = m := ⟨_, rfl⟩
        have D1 : Hid (∀ d os, Calls Tryd.prog 24 #[.agg (exCells y (.slice A1 y.kids.toList.length c1)).toArray, .agg (exCells z (.slice A2 z.kids.toList.length c2)).toArray] (grow (redrawn wr d) os) fun e w' => e = .returned (.bool m) ∧ Below (grow (redrawn wr d) os).heap.size (grow (redrawn wr d) os) w') := fun d os => by rw [← hm]; exact HI.out y z (by have := HSZ.out; omega) A1 A2 c1 c2 _ (regrown_rd hyr d os) (regrown_rd hzr d os)
        have HM := Lib.hid hm
        have y1 : ∀ d os, (grow (redrawn wr d) os).cell? ⟨n0, 3, none⟩ = some (.slice (some ⟨ba, oa, none⟩) a.kids.toList.length c) := fun d os => cell_regrown r1 d os
        have y2 : ∀ d os, (grow (redrawn wr d) os).cell? ⟨n0 + 1, 3, none⟩ = some (.slice (some ⟨bb, ob, none⟩) b.kids.toList.length c') := fun d os => cell_regrown r2 d os
        have i0 : (0 : Int) ≤ (k : Int) := by omega
        have i1 : (k : Int) < (a.kids.toList.length : Int) := by omega
        have i2 : (k : Int) < (b.kids.toList.length : Int) := by omega
        clear hx hye hx' hze hyr hzr hg hg' hm hS1 hS2
        go_wp2_with fail
        refine wp_region_quiet_below (by kernel_rfl) (by kernel_rfl) ?_
        repeat (first
          | ((with_reducible refine quiet_load ba (oa + k * 4) (exCells y (.slice A1 y.kids.toList.length c1)) ?hw ?hx HG.out hba Tryd.underlying24 ?hd ?hi ?_); (case hi => exact ex_info); (case hw => kernel_rfl); (case hx => rfl); (case hd => rfl))
          | ((with_reducible refine quiet_load bb (ob + k * 4) (exCells z (.slice A2 z.kids.toList.length c2)) ?hw ?hx HG'.out hbb Tryd.underlying24 ?hd ?hi ?_); (case hi => exact ex_info); (case hw => kernel_rfl); (case hx => rfl); (case hd => rfl))
          | (open Go.BigFrame in go_big_quiet_step ((with_reducible exact Calls.regrown_of (D1.out _ _))))
          | (quiet_step ((with_reducible exact Calls.regrown_of (D1.out _ _)))))
        refine wpQuiet_nil ?_
        rintro w6 ⟨z6, hw6⟩
        have hb6 : Below wr.heap.size wr w6 := by rw [hw6]; exact below_regrown _ _ _
        have HB6 := Lib.hid (HB0.out.trans (hb6.mono HB0.out.size))
        clear hw6 hb6 y1 y2 r1 r2
        cases m with
        | true =>
          have HN := Lib.hid (show decide (a.kids.toList.drop (k + 1) = b.kids.toList.drop (k + 1)) = q by rw [← HQK.out, HDR.out, HM.out, Bool.true_and])
          go_wp2_with fail
          exact ⟨⟨k + 1, by omega, by go_num, HN.out, HB6.out⟩, by simp [intOf]; omega⟩
        | false =>
          have hqf : q = false := by rw [← HQK.out, HDR.out, HM.out, Bool.false_and]
          subst hqf
          go_wp2_with fail
          go_ret
          exact ⟨rfl, HB.out.trans (HB6.out.mono HB.out.size)⟩
      · have hqt : q = true := by
          rw [← HQK.out, List.drop_eq_nil_of_le (by omega), List.drop_eq_nil_of_le (by have := HLL.out; omega)]; rfl
        subst hqt
        clear HQK
        go_wp2_with fail
        go_ret
        exact ⟨rfl, HB.out.trans (HB0.out.mono HB.out.size)⟩

end Go.Proofs.YtkalkglllgebkaaDoor
