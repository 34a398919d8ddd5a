/-
  The reference's walk through a pattern: Check, Leaves, Cuts (package sawmillref21).
-/
import Derived.Test.YtbmcfodhjibooaaDoorPaZ
namespace Saw
theorem walkR_nil {kerf : Int} {board : Rc → Int → Int} {f : Nat} {x : Plc} : walkR kerf board (f + 1) [] x = .inl 3 := rfl
theorem walkR_err {kerf : Int} {board : Rc → Int → Int} {f : Nat} {n : Nd} {ns : List Nd} {x : Plc} (h : nodeErr n x ≠ 0) : walkR kerf board (f + 1) (n :: ns) x = .inl (nodeErr n x) := by
  have he : fullErr board n x = nodeErr n x := by unfold fullErr; rw [if_neg (fun e => h e.1)]
  rw [walkR, he, if_pos h]
theorem walkR_leaf {kerf : Int} {board : Rc → Int → Int} {f : Nat} {n : Nd} {ns : List Nd} {x : Plc} (h : nodeErr n x = 0) (h1 : n.kind = 0) : walkR kerf board (f + 1) (n :: ns) x = .inr (ns, [⟨x.rect, -1⟩], []) := by
  have he : fullErr board n x = 0 := by unfold fullErr; rw [if_neg (by omega), h]
  rw [walkR, he, if_neg (by decide), if_neg (by simp [ripP, h1]), leafP, if_pos h1]
theorem walkR_board {kerf : Int} {board : Rc → Int → Int} {f : Nat} {n : Nd} {ns : List Nd} {x : Plc} (h : nodeErr n x = 0) (h1 : n.kind = 1) : (board x.rect n.pos = 0 → walkR kerf board (f + 1) (n :: ns) x = .inr (ns, [⟨x.rect, n.pos⟩], [])) ∧ (board x.rect n.pos ≠ 0 → walkR kerf board (f + 1) (n :: ns) x = .inl (board x.rect n.pos)) := by
  have he : fullErr board n x = board x.rect n.pos := by unfold fullErr; rw [if_pos ⟨h, h1⟩]
  refine ⟨fun hb => ?_, fun hb => ?_⟩
  · rw [walkR, he, if_neg (by omega), if_neg (by simp [ripP, h1]), leafP, if_neg (by omega), if_pos h1]
  · rw [walkR, he, if_pos hb]
/-- What a walk gives: leaves, cuts, the error. -/
def walkP (board : Rc → Int → Int) (r : Rc) (ns : List Nd) (kerf : Int) : List Lf × List Rc × Int :=
  if checkPt r ns kerf board ≠ 0 then ([], [], checkPt r ns kerf board) else (leavesL kerf ns [⟨r, 1⟩], cutsL kerf ns [⟨r, 1⟩], 0)
theorem chkL_end (kerf : Int) (board : Rc → Int → Int) (m : List Nd) : chkL kerf board m [] = if m = [] then 0 else 4 := by
  cases m with
  | nil => rfl
  | cons a b => rw [chkL, if_neg (by simp)]
end Saw
namespace Go.Proofs.YtbmcfodhjibooaaDoor
open Go.RowKit Saw Go.Sort
theorem walk_all (wb Bn B : Nat) (nv lv : Value) (ns : List Nd) (l : List Pr) (sized : Bool) (kerf : Int) (hkf : 0 ≤ kerf ∧ kerf ≤ 20) : ∀ f, WkOk wb Bn B nv lv ns l sized kerf f := by
  intro f
  induction f with
  | zero => intro lev r at_ av cv accL accC w hf; exact absurd hf (Nat.not_lt_zero _)
  | succ f ih =>
    intro lev r at_ av cv accL accC w hf hl1 hl65 hr hst
    by_cases hlt : at_ < ns.length
    · obtain ⟨⟨k, p⟩, hn⟩ : ∃ n, ns[at_]? = some n := ⟨_, List.getElem?_eq_getElem hlt⟩
      have hdrop : ns.drop at_ = ⟨k, p⟩ :: ns.drop (at_ + 1) := by
        rw [List.drop_eq_getElem_cons hlt, (List.getElem?_eq_some_iff.1 hn).2]
      rw [hdrop] at hf ⊢
      rw [List.length_cons] at hf
      by_cases e0 : k < 0
      · have he : nodeErr ⟨k, p⟩ ⟨r, lev⟩ = 10 := by unfold nodeErr; rw [if_pos (.inl e0)]
        rw [walkR_err (by rw [he]; decide), he]
        exact walk_kind1 wb Bn B nv lv ns l sized kerf lev r at_ av cv accL accC w hst k p hn e0
      by_cases e1 : 3 < k
      · have he : nodeErr ⟨k, p⟩ ⟨r, lev⟩ = 10 := by unfold nodeErr; rw [if_pos (.inr (.inl e1))]
        rw [walkR_err (by rw [he]; decide), he]
        exact walk_kind2 wb Bn B nv lv ns l sized kerf lev r at_ av cv accL accC w hst k p hn e0 e1
      by_cases e2 : k = 0
      · by_cases e3 : p ≠ 0
        · have he : nodeErr ⟨k, p⟩ ⟨r, lev⟩ = 10 := by unfold nodeErr; rw [if_pos (.inr (.inr ⟨e2, e3⟩))]
          rw [walkR_err (by rw [he]; decide), he]
          exact walk_kind3 wb Bn B nv lv ns l sized kerf lev r at_ av cv accL accC w hst k p hn e3 e2
        have e3 : p = 0 := Decidable.of_not_not e3
        have hk : ¬ (k < 0 ∨ 3 < k ∨ (k = 0 ∧ p ≠ 0)) := by omega
        by_cases e4 : 64 < lev
        · have he : nodeErr ⟨k, p⟩ ⟨r, lev⟩ = 28 := by unfold nodeErr; rw [if_neg hk, if_pos e4]
          rw [walkR_err (by rw [he]; decide), he]
          exact walk_level2 wb Bn B nv lv ns l sized kerf lev r at_ av cv accL accC w hst k p hn e2 e3 e4
        have he : nodeErr ⟨k, p⟩ ⟨r, lev⟩ = 0 := by unfold nodeErr; rw [if_neg hk, if_neg e4, if_neg (by simp [ripP, e2])]
        rw [walkR_leaf he e2]
        exact walk_waste wb Bn B nv lv ns l sized kerf lev r at_ av cv accL accC w hst k p hn e2 e3 e4
      have hk : ¬ (k < 0 ∨ 3 < k ∨ (k = 0 ∧ p ≠ 0)) := by omega
      by_cases e4 : 64 < lev
      · have he : nodeErr ⟨k, p⟩ ⟨r, lev⟩ = 28 := by unfold nodeErr; rw [if_neg hk, if_pos e4]
        rw [walkR_err (by rw [he]; decide), he]
        exact walk_level1 wb Bn B nv lv ns l sized kerf lev r at_ av cv accL accC w hst k p hn e0 e1 e2 e4
      by_cases e5 : k = 1
      · have he : nodeErr ⟨k, p⟩ ⟨r, lev⟩ = 0 := by unfold nodeErr; rw [if_neg hk, if_neg e4, if_neg (by simp [ripP, e5])]
        exact walk_board wb Bn B nv lv ns l sized kerf lev r at_ av cv accL accC w hst k p hn e5 e4 hr _ (walkR_board he e5)
      exact walk_rip wb Bn B nv lv ns l sized kerf lev r at_ av cv accL accC w hst k p hn (by omega) e4 hl1 hr hkf f (by omega) ih _ rfl
    · have h0 : at_ = ns.length := by have := hst.hat; omega
      rw [show ns.drop at_ = [] by rw [h0]; exact List.drop_length, walkR_nil]
      exact walk_short wb Bn B nv lv ns l sized kerf lev r at_ av cv accL accC w hst h0

def WalkPost (w : World) (q : List Lf × List Rc × Int) (e : Ending) (w' : World) : Prop :=
  ∃ av cv, e = .returned (.tuple #[av, cv, .int .i64 q.2.2]) ∧ Rd w' w'.heap.size 5 av q.1.length (lfsCells q.1) ∧ Rd w' w'.heap.size 4 cv q.2.1.length (rcsCells q.2.1) ∧ Below w.heap.size w w'

theorem walk_bad {w w' : World} {e : Ending} {k : Int} {R : List Lf × List Rc × Int} (hR : R = ([], [], k)) (he : e = .returned (.tuple #[.slice none 0 0, .slice none 0 0, .int .i64 k])) (hb : Below w.heap.size w w') : WalkPost w R e w' := by
  subst hR
  exact ⟨_, _, he, Rd.none_, Rd.none_, hb⟩
theorem walk_start {W : World} {N : Nat} {nv lv : Value} {ns : List Nd} {l : List Pr} {sized : Bool} {kerf : Int} (hN : W.heap.size = N) (hns : RdNd W N nv ns) (hl : RdPr W N lv l) (h : ns.length ≤ 127) :
    WkSt (W.alloc (.cells #[nv, lv, .bool sized, .int .i64 kerf, .int .i64 0, .slice none 0 0, .slice none 0 0] 129)) N (N + 1) N nv lv ns l sized kerf 0 (.slice none 0 0) (.slice none 0 0) [] [] := by
  have hb : Below N W (W.alloc (.cells #[nv, lv, .bool sized, .int .i64 kerf, .int .i64 0, .slice none 0 0, .slice none 0 0] 129)) := (Below.refl N W).alloc (by omega) _
  refine ⟨?_, ⟨rfl, .inl ⟨rfl, rfl⟩⟩, ⟨rfl, .inl ⟨rfl, rfl⟩⟩, hns.below hb, hl.below hb, Nat.le_refl _, Nat.lt_succ_self _, by rw [World.size_alloc]; omega, Nat.le_refl _, Nat.le_refl _, Nat.zero_le _, h⟩
  have h1 := heap_alloc_last W (.cells #[nv, lv, .bool sized, .int .i64 kerf, .int .i64 0, .slice none 0 0, .slice none 0 0] 129)
  rw [hN] at h1
  exact h1

set_option maxRecDepth 100000 in
set_option maxHeartbeats 4000000 in
theorem rwalk_any (r : Rc) (ns : List Nd) (nv lv : Value) (l : List Pr) (sized : Bool) (kerf : Int) (w : World) (hns : RdNd w w.heap.size nv ns) (hl : RdPr w w.heap.size lv l) :
    Calls Tryd.prog 45 #[.agg #[.int .i64 r.xa, .int .i64 r.xb, .int .i64 r.ya, .int .i64 r.yb, nv], lv, .bool sized, .int .i64 kerf] w (WalkPost w (walkP (bdP sized l) r ns kerf)) := by
  obtain ⟨A, c, rfl, hc, hml⟩ := hns.form
  unfold maxLen at hml
  obtain ⟨A2, c2, rfl, hc2, hml2⟩ := hl.form
  obtain ⟨R, hR⟩ : ∃ R, walkP (bdP sized l) r ns kerf = R := ⟨_, rfl⟩
  have HRR := Lib.hid hR
  have hbad : ∀ e : Int, e ≠ 0 → checkPt r ns kerf (bdP sized l) = e → R = ([], [], e) := fun e h0 he => by
    rw [← hR, walkP, he, if_pos h0]
  rw [hR]
  have HBAD := Lib.hid hbad
  obtain ⟨W0, hW0⟩ : ∃ W0, (w.alloc (.cells #[.int .i64 r.xa, .int .i64 r.xb, .int .i64 r.ya, .int .i64 r.yb, .slice A ns.length c] 28)) = W0 := ⟨_, rfl⟩
  have hb0 : Below w.heap.size w W0 := by rw [← hW0]; repeat (first | exact Below.refl _ _ | apply bel_alloc)
  have hp0 : PatAt W0 w.heap.size r (.slice A ns.length c) := by rw [← hW0]; exact heap_alloc_last w _
  obtain ⟨N, hN⟩ : ∃ N, w.heap.size = N := ⟨_, rfl⟩
  have HN := Lib.hid hN
  have HNS := Lib.hid (hns.below hb0)
  have HPR := Lib.hid (hl.below hb0)
  rw [hN] at hb0 hp0 HNS HPR
  have HB0 := Lib.hid hb0
  have HP0 := Lib.hid hp0
  have HW0 := Lib.hid hW0
  obtain ⟨p0, p1, p2, p3, p4⟩ := cells5 hp0
  have hNW : N < W0.heap.size := (Array.getElem?_eq_some_iff.1 hp0).1
  clear hns hl hb0 hbad hR hW0 hp0 hN
  go_enter Tryd.func45, Tryd.ntmps45
  go_upto_region 1 with fail
  rw [HW0.out, HN.out]
  go_wp2_with fail
  refine (rFramed_any r _).mono ?_
  rintro e w1 ⟨he, hb1⟩
  have HB1 := Lib.hid (HB0.out.trans (hb1.mono (Nat.le_of_lt hNW)))
  have HP1 := Lib.hid (show PatAt w1 N r (.slice A ns.length c) from (hb1.block _ hNW).trans HP0.out)
  have HNS1 := Lib.hid (HNS.out.below (hb1.mono (Nat.le_of_lt hNW)))
  have HPR1 := Lib.hid (HPR.out.below (hb1.mono (Nat.le_of_lt hNW)))
  clear p0 p1 p2 p3 p4
  obtain ⟨p0, p1, p2, p3, p4⟩ := cells5 HP1.out
  have hNw : N < w1.heap.size := by have := hb1.size; omega
  clear hb1
  cases hf : frameP r with
  | false =>
    rw [hf] at he
    subst he
    have HX := Lib.hid (HBAD.out 19 (by decide) (by rw [checkPt, if_pos hf]))
    clear hf
    go_wp2_with fail
    exact bodyPost_ret (v := .tuple #[.slice none 0 0, .slice none 0 0, .int .i64 19]) (by simp [results, Tryd.results45, go_sem]) rfl (walk_bad HX.out rfl (by rw [HN.out]; exact HB1.out))
  | true =>
  rw [hf] at he
  subst he
  have HF := Lib.hid hf
  clear hf
  by_cases hk0 : kerf < 0
  · have HX := Lib.hid (HBAD.out 9 (by decide) (by rw [checkPt, if_neg (by rw [HF.out]; decide), if_pos (.inl hk0)]))
    go_wp2_with fail
    exact bodyPost_ret (v := .tuple #[.slice none 0 0, .slice none 0 0, .int .i64 9]) (by simp [results, Tryd.results45, go_sem]) rfl (walk_bad HX.out rfl (by rw [HN.out]; exact HB1.out))
  by_cases hk1 : 20 < kerf
  · have HX := Lib.hid (HBAD.out 9 (by decide) (by rw [checkPt, if_neg (by rw [HF.out]; decide), if_pos (.inr hk1)]))
    go_wp2_with fail
    exact bodyPost_ret (v := .tuple #[.slice none 0 0, .slice none 0 0, .int .i64 9]) (by simp [results, Tryd.results45, go_sem]) rfl (walk_bad HX.out rfl (by rw [HN.out]; exact HB1.out))
  by_cases hn : 127 < ns.length
  · have HX := Lib.hid (HBAD.out 4 (by decide) (by rw [checkPt, if_neg (by rw [HF.out]; decide), if_neg (by omega), if_pos hn]))
    go_wp2_with fail
    exact bodyPost_ret (v := .tuple #[.slice none 0 0, .slice none 0 0, .int .i64 4]) (by simp [results, Tryd.results45, go_sem]) rfl (walk_bad HX.out rfl (by rw [HN.out]; exact HB1.out))
  have HC := Lib.hid (show checkPt r ns kerf (bdP sized l) = chkL kerf (bdP sized l) ns [⟨r, 1⟩] by rw [checkPt, if_neg (by rw [HF.out]; decide), if_neg (by omega), if_neg hn])
  go_upto_region 8 with fail
  obtain ⟨M, hM⟩ : ∃ M, w1.heap.size = M := ⟨_, rfl⟩
  have hst := walk_start (W := w1) (N := M) (nv := .slice A ns.length c) (lv := .slice A2 l.length c2) (ns := ns) (l := l) (sized := sized) (kerf := kerf) hM (HNS1.out.more (by omega)) (HPR1.out.more (by omega)) (by omega)
  obtain ⟨W2, hW2⟩ : ∃ W2, w1.alloc (.cells #[.slice A ns.length c, .slice A2 l.length c2, .bool sized, .int .i64 kerf, .int .i64 0, .slice none 0 0, .slice none 0 0] 129) = W2 := ⟨_, rfl⟩
  have HB2 := Lib.hid (show Below M w1 W2 by rw [← hW2]; exact (Below.refl M w1).alloc (by omega) _)
  rw [hW2] at hst
  rw [hW2, hM]
  have HM := Lib.hid hM
  have HST := Lib.hid hst
  have HP2 := Lib.hid (show PatAt W2 N r (.slice A ns.length c) from (HB2.out.block _ (by omega)).trans HP1.out)
  clear p0 p1 p2 p3 p4 hW2 hst hM
  obtain ⟨p0, p1, p2, p3, p4⟩ := cells5 HP2.out
  obtain ⟨Q, hQ⟩ : ∃ Q, walkR kerf (bdP sized l) (ns.length + 1) ns ⟨r, 1⟩ = Q := ⟨_, rfl⟩
  have hcall := walk_all M (M + 1) M (.slice A ns.length c) (.slice A2 l.length c2) ns l sized kerf (by omega) (ns.length + 1) 1 r 0 (.slice none 0 0) (.slice none 0 0) [] [] W2 (by rw [List.drop_zero]; omega) (by decide) (by decide) (frame_ok HF.out) HST.out
  rw [List.drop_zero, hQ] at hcall
  have HCALL := Lib.hid hcall
  obtain ⟨e1, e2⟩ := walk_chk kerf (bdP sized l) (ns.length + 1) ns ⟨r, 1⟩ (Nat.lt_succ_self _)
  have HE1 := Lib.hid e1
  have HE2 := Lib.hid e2
  have HQ := Lib.hid hQ
  clear hcall e1 e2 hQ
  go_wp2_with fail
  refine (show Calls Tryd.prog 82 #[.pointer (some ⟨M, 0, none⟩), .agg #[.int .i64 r.xa, .int .i64 r.xb, .int .i64 r.ya, .int .i64 r.yb], .int .i64 1] W2 _ from HCALL.out).mono ?_
  rintro e w3 ⟨av3, cv3, ht, hm⟩
  have hMW := HST.out.big
  have hNM : N < M := by rw [← HM.out]; exact hNw
  have hs3 := ht.size
  have HP3 := Lib.hid (show PatAt w3 N r (.slice A ns.length c) from (ht.block N (by omega) (by omega) (fun e => by cases e) (fun e => by cases e)).trans HP2.out)
  have HB3 := Lib.hid (show Below N w w3 from HB1.out.trans (by
    have h1 : Below M w1 w3 := HB2.out.trans (ht.out (B := M) (Nat.le_refl _) (by omega) (fun g e => by cases e) (fun g e => by cases e))
    exact h1.mono (by omega)))
  clear p0 p1 p2 p3 p4
  obtain ⟨p0, p1, p2, p3, p4⟩ := cells5 HP3.out
  cases Q with
  | inl q =>
    simp only at hm
    subst hm
    obtain ⟨h1, h2⟩ := HE1.out q HQ.out
    have HX := Lib.hid (HBAD.out q h1 (HC.out.trans (h2 [])))
    have hq0 : (q == 0) = false := by rw [beq_eq_false_iff_ne]; exact h1
    have hq1 : (q != 0) = true := by rw [bne_iff_ne]; exact h1
    clear h1 h2 ht
    go_wp2_with fail
    exact bodyPost_ret (v := .tuple #[.slice none 0 0, .slice none 0 0, .int .i64 q]) (by simp [results, Tryd.results45, go_sem]) rfl (walk_bad HX.out rfl (by rw [HN.out]; exact HB3.out))
  | inr q =>
    obtain ⟨m1, l1, c1⟩ := q
    simp only at hm
    obtain ⟨he, at3, hm1, hs3'⟩ := hm
    subst he
    have HS3 := Lib.hid hs3'
    obtain ⟨_, h2⟩ := HE2.out m1 l1 c1 HQ.out
    obtain ⟨h3, h4, h5⟩ := h2 []
    have HLV := Lib.hid h4
    have HCT := Lib.hid h5
    have hat := hs3'.hat
    obtain ⟨d0, d1, d2, d3, d4, d5, d6, _, _⟩ := hs3'.cells
    by_cases hlt : at3 < ns.length
    · have HX := Lib.hid (HBAD.out 4 (by decide) (by
        rw [HC.out, h3, chkL_end, if_neg]
        intro e
        rw [hm1] at e
        have := congrArg List.length e
        rw [List.length_drop, List.length_nil] at this
        omega))
      clear h2 h3 h4 h5 ht hs3' hm1
      go_wp2_with fail
      exact bodyPost_ret (v := .tuple #[.slice none 0 0, .slice none 0 0, .int .i64 4]) (by simp [results, Tryd.results45, go_sem]) rfl (walk_bad HX.out rfl (by rw [HN.out]; exact HB3.out))
    · obtain rfl : m1 = [] := by rw [hm1, List.drop_eq_nil_of_le (by omega)]
      have hz : checkPt r ns kerf (bdP sized l) = 0 := by rw [HC.out, h3, chkL_end, if_pos rfl]
      have HR3 := Lib.hid (show R = (l1, c1, 0) by
        rw [← HRR.out, walkP, if_neg (by rw [hz]; decide), h4, h5]
        simp [leavesL, cutsL])
      have HOL := Lib.hid (Rd.of_own hs3'.ol)
      have HOC := Lib.hid (Rd.of_own hs3'.oc)
      rw [List.nil_append] at HOL HOC
      clear h2 h3 h4 h5 ht hs3' hm1 hz
      go_wp2_with fail
      go_quiet (fail)
      go_wp2_with fail
      refine bodyPost_ret (v := .tuple #[av3, cv3, .int .i64 0]) (by simp [results, Tryd.results45, go_sem]) rfl ?_
      rw [HR3.out]
      exact ⟨av3, cv3, rfl, HOL.out, HOC.out, by rw [HN.out]; exact below_drewNn HB3.out _⟩

theorem walkP_err (board : Rc → Int → Int) (r : Rc) (ns : List Nd) (kerf : Int) : (walkP board r ns kerf).2.2 = checkPt r ns kerf board := by
  unfold walkP
  split
  · rfl
  · rename_i h; exact (Decidable.of_not_not h).symm
theorem walkP_leaves (r : Rc) (ns : List Nd) (kerf : Int) : leavesP r ns kerf = ((walkP anyB r ns kerf).1, (walkP anyB r ns kerf).2.2) := by
  unfold walkP leavesP
  split <;> rfl
theorem walkP_cuts (r : Rc) (ns : List Nd) (kerf : Int) : cutsP r ns kerf = ((walkP anyB r ns kerf).2.1, (walkP anyB r ns kerf).2.2) := by
  unfold walkP cutsP
  split <;> rfl
theorem bdP_true (l : List Pr) : bdP true l = boardP l := rfl
theorem bdP_false (l : List Pr) : bdP false l = anyB := rfl
/-- The reference's Check. -/
theorem rpatCheck_any (r : Rc) (ns : List Nd) (nv lv : Value) (l : List Pr) (kerf : Int) (w : World) (hns : RdNd w w.heap.size nv ns) (hl : RdPr w w.heap.size lv l) :
    Calls Tryd.prog 14 #[.agg #[.int .i64 r.xa, .int .i64 r.xb, .int .i64 r.ya, .int .i64 r.yb, nv], lv, .int .i64 kerf] w (IntB (checkPt r ns kerf (boardP l)) w) := by
  obtain ⟨A, c, rfl, hc, hml⟩ := hns.form
  have hb0 : Below w.heap.size w (w.alloc (.cells #[.int .i64 r.xa, .int .i64 r.xb, .int .i64 r.ya, .int .i64 r.yb, .slice A ns.length c] 28)) := bel_alloc (Below.refl _ _)
  have HB0 := Lib.hid hb0
  have HNS := Lib.hid (hns.next hb0)
  have HPR := Lib.hid (hl.next hb0)
  clear hns hl hb0 hc hml
  go_enter Tryd.func14, Tryd.ntmps14
  go_wp2_with fail
  refine (rwalk_any r ns _ lv l true kerf _ HNS.out HPR.out).mono ?_
  rintro e w1 ⟨av, cv, he, _, _, hb1⟩
  rw [walkP_err, bdP_true] at he
  subst he
  have HB1 := Lib.hid (HB0.out.trans (hb1.mono (by rw [World.size_alloc]; omega)))
  clear hb1
  go_wp2_with fail
  go_ret
  exact ⟨rfl, HB1.out⟩
theorem rdpr_nil (w : World) (B : Nat) : RdPr w B (.slice none 0 0) [] := ⟨[], rfl, Rd.none_, fun _ h => by cases h⟩
theorem rleaves_any (r : Rc) (ns : List Nd) (nv : Value) (kerf : Int) (w : World) (hns : RdNd w w.heap.size nv ns) :
    Calls Tryd.prog 16 #[.agg #[.int .i64 r.xa, .int .i64 r.xb, .int .i64 r.ya, .int .i64 r.yb, nv], .int .i64 kerf] w (LeavesPost w (leavesP r ns kerf)) := by
  obtain ⟨A, c, rfl, hc, hml⟩ := hns.form
  have hb0 : Below w.heap.size w (w.alloc (.cells #[.int .i64 r.xa, .int .i64 r.xb, .int .i64 r.ya, .int .i64 r.yb, .slice A ns.length c] 28)) := bel_alloc (Below.refl _ _)
  have HB0 := Lib.hid hb0
  have HNS := Lib.hid (hns.next hb0)
  clear hns hb0 hc hml
  go_enter Tryd.func16, Tryd.ntmps16
  go_wp2_with fail
  refine (rwalk_any r ns _ (.slice none 0 0) [] false kerf _ HNS.out (rdpr_nil _ _)).mono ?_
  rintro e w1 ⟨av, cv, he, h1, h2, hb1⟩
  rw [bdP_false] at he h1 h2
  have HRD := Lib.hid h1
  obtain ⟨q, hq⟩ : ∃ q, (walkP anyB r ns kerf).2.2 = q := ⟨_, rfl⟩
  rw [hq] at he
  subst he
  have HQ := Lib.hid hq
  have HB1 := Lib.hid (HB0.out.trans (hb1.mono (by rw [World.size_alloc]; omega)))
  clear hb1 h1 h2 hq
  go_wp2_with fail
  go_ret2
  rw [walkP_leaves]
  exact ⟨av, by rw [HQ.out]; rfl, HRD.out, HB1.out⟩
theorem rcuts_any (r : Rc) (ns : List Nd) (nv : Value) (kerf : Int) (w : World) (hns : RdNd w w.heap.size nv ns) :
    Calls Tryd.prog 18 #[.agg #[.int .i64 r.xa, .int .i64 r.xb, .int .i64 r.ya, .int .i64 r.yb, nv], .int .i64 kerf] w (CutsPost w (cutsP r ns kerf)) := by
  obtain ⟨A, c, rfl, hc, hml⟩ := hns.form
  have hb0 : Below w.heap.size w (w.alloc (.cells #[.int .i64 r.xa, .int .i64 r.xb, .int .i64 r.ya, .int .i64 r.yb, .slice A ns.length c] 28)) := bel_alloc (Below.refl _ _)
  have HB0 := Lib.hid hb0
  have HNS := Lib.hid (hns.next hb0)
  clear hns hb0 hc hml
  go_enter Tryd.func18, Tryd.ntmps18
  go_wp2_with fail
  refine (rwalk_any r ns _ (.slice none 0 0) [] false kerf _ HNS.out (rdpr_nil _ _)).mono ?_
  rintro e w1 ⟨av, cv, he, h1, h2, hb1⟩
  rw [bdP_false] at he h1 h2
  have HRD := Lib.hid h2
  obtain ⟨q, hq⟩ : ∃ q, (walkP anyB r ns kerf).2.2 = q := ⟨_, rfl⟩
  rw [hq] at he
  subst he
  have HQ := Lib.hid hq
  have HB1 := Lib.hid (HB0.out.trans (hb1.mono (by rw [World.size_alloc]; omega)))
  clear hb1 h1 h2 hq
  go_wp2_with fail
  go_ret2
  rw [walkP_cuts]
  exact ⟨cv, by rw [HQ.out]; rfl, HRD.out, HB1.out⟩
end Go.Proofs.YtbmcfodhjibooaaDoor
