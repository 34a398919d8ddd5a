/-
  The contract of sawmillref34.statement.
-/
import Derived.Test.YtadflenmdfcflaaDoorWRefY
import Derived.Test.YtadflenmdfcflaaDoorLexF
import Derived.BigRegion
namespace Go.RowKit
theorem results_cell3 {P : Program} {fn : Func} {p q q2 : Tmp} {ty : TypeId} (h : fn.results = #[.cell p ty, .tmp q, .tmp q2]) (tmps : Array Value) (w : World) (g o : Nat) (cs : List Value) {td : TypeDesc}
    (hp : tmps.getD p undef = .pointer (some ⟨g, o, none⟩)) (hc : w.rangeAt g o cs) (hu : P.underlying ty = some td) (hd : td.isRow = true) (hi : (P.info? ty).map (·.size) = some cs.length) (v v2 : Value) (hq : tmps.getD q undef = v) (hq2 : tmps.getD q2 undef = v2) :
    (results fn tmps).run P w = .ok (.tuple #[.agg cs.toArray, v, v2]) w := by
  have hp' : tmps[p]?.getD undef = .pointer (some ⟨g, o, none⟩) := by simpa using hp
  have hq' : tmps[q]?.getD undef = v := by simpa using hq
  have hq2' : tmps[q2]?.getD undef = v2 := by simpa using hq2
  simp [results, h, hp', hq', hq2', asAddr, run_loadVar_mid w g o ty cs td hc hu hd hi]
end Go.RowKit
namespace Go.Proofs.YtadflenmdfcflaaDoor
open Go.RowKit Saw Go.Sort

def RStmtPost (r : Sp × Nat × Bool) (w : World) (e : Ending) (w' : World) : Prop :=
  e = .returned (.tuple #[.agg (spCells (if r.2.2 then r.1 else Sp.zero)).toArray, .int .i64 r.2.1, .bool r.2.2]) ∧ Below w.heap.size w w'

theorem lx_at {w W : World} {b off n c : Nat} {xs : List Lx} (h : RdLx w (.slice (some ⟨b, off, none⟩) n c) xs) (hb : Below w.heap.size w W) {j : Nat} {x : Lx} (hx : xs[j]? = some x) :
    W.cell? ⟨b, off + j * 4, none⟩ = some (.int .i64 x.kind) ∧ W.cell? ⟨b, off + j * 4 + 1, none⟩ = some (.string (str x.text)) ∧
      W.cell? ⟨b, off + j * 4 + 2, none⟩ = some (.int .i64 x.num) ∧ W.cell? ⟨b, off + j * 4 + 3, none⟩ = some (.int .i64 x.off) := by
  obtain ⟨b', off', he, hlt, q0, q1, q2, q3⟩ := RdLx.at_ h hx
  cases he
  exact ⟨(hb.cell (p := ⟨b, _, none⟩) hlt).trans q0, (hb.cell (p := ⟨b, _, none⟩) hlt).trans q1, (hb.cell (p := ⟨b, _, none⟩) hlt).trans q2, (hb.cell (p := ⟨b, _, none⟩) hlt).trans q3⟩

theorem list12 {l : List Int} (h : l.length = 12) : ∃ n0 n1 n2 n3 n4 n5 n6 n7 n8 n9 n10 n11, l = [n0, n1, n2, n3, n4, n5, n6, n7, n8, n9, n10, n11] := by
  match l, h with
  | [n0, n1, n2, n3, n4, n5, n6, n7, n8, n9, n10, n11], _ => exact ⟨n0, n1, n2, n3, n4, n5, n6, n7, n8, n9, n10, n11, rfl⟩

/-- The twelve numbers of a row of the call's own. -/
theorem own12 {w : World} {base : Nat} {v : Value} {n0 n1 n2 n3 n4 n5 n6 n7 n8 n9 n10 n11 : Int} (h : OwnsInt w base v [n0, n1, n2, n3, n4, n5, n6, n7, n8, n9, n10, n11]) :
    ∃ g c, v = .slice (some ⟨g, 0, none⟩) 12 c ∧ base ≤ g ∧ g < w.heap.size ∧ w.cell? ⟨g, 0, none⟩ = some (.int .i64 n0) ∧ w.cell? ⟨g, 1, none⟩ = some (.int .i64 n1) ∧ w.cell? ⟨g, 2, none⟩ = some (.int .i64 n2) ∧ w.cell? ⟨g, 3, none⟩ = some (.int .i64 n3) ∧ w.cell? ⟨g, 4, none⟩ = some (.int .i64 n4) ∧ w.cell? ⟨g, 5, none⟩ = some (.int .i64 n5) ∧ w.cell? ⟨g, 6, none⟩ = some (.int .i64 n6) ∧ w.cell? ⟨g, 7, none⟩ = some (.int .i64 n7) ∧ w.cell? ⟨g, 8, none⟩ = some (.int .i64 n8) ∧ w.cell? ⟨g, 9, none⟩ = some (.int .i64 n9) ∧ w.cell? ⟨g, 10, none⟩ = some (.int .i64 n10) ∧ w.cell? ⟨g, 11, none⟩ = some (.int .i64 n11) := by
  obtain ⟨h1, h2⟩ := h
  rcases h2 with ⟨h3, _⟩ | ⟨g, cap, cur, rfl, hbg, hgg, hn, hcap, hcs, htk⟩
  · rename_i h4; cases h4
  · have hc : ∀ j u, ([n0, n1, n2, n3, n4, n5, n6, n7, n8, n9, n10, n11].map fun n => Value.int .i64 n)[j]? = some u → w.cell? ⟨g, j, none⟩ = some u := by
      intro j u hu
      rw [cell_of_row w g j cur _ (0, 0) hgg]
      rw [← htk, List.getElem?_take] at hu
      split at hu
      · simpa using hu
      · cases hu
    exact ⟨g, cap, rfl, hbg, (Array.getElem?_eq_some_iff.1 hgg).1, hc 0 _ rfl, hc 1 _ rfl, hc 2 _ rfl, hc 3 _ rfl, hc 4 _ rfl, hc 5 _ rfl, hc 6 _ rfl, hc 7 _ rfl, hc 8 _ rfl, hc 9 _ rfl, hc 10 _ rfl, hc 11 _ rfl⟩

theorem k0_alloc {W1 W : World} (h : Below W1.heap.size W1 W) {ob : Obj} : Below W1.heap.size W1 (W.alloc ob) := h.alloc h.size ob
theorem k0_set {W1 W : World} {g o : Nat} (h : Below W1.heap.size W1 W) (hg : W1.heap.size ≤ g) {vs : List Value} : Below W1.heap.size W1 (W.setCells g o vs) := h.setCells hg vs o

set_option maxRecDepth 100000 in
set_option maxHeartbeats 2000000 in
theorem refStatement_any (w : World) (lv : Value) (xs : List Lx) (k : Nat) (hl : RdLx w lv xs) (hk : k < xs.length) (hxl : xs.length ≤ 100000) (hend : LxEnds xs) :
    Calls Tryd.prog 45 #[lv, .int .i64 k] w (RStmtPost (stmtP xs k) w) := by
  obtain ⟨A, c, rfl, hc, hml⟩ := hl.form
  unfold maxLen at hml
  obtain ⟨b, off, rfl, hbl, _⟩ := RdLx.at_ hl (lxAt_some hk)
  obtain ⟨r, hr⟩ : ∃ r, stmtP xs k = r := ⟨_, rfl⟩
  rw [hr]
  have HRR := Lib.hid hr
  have HL := Lib.hid hl
  have HEND := Lib.hid hend
  have hxs := lxAt_some hk
  obtain ⟨x0, hx0⟩ : ∃ x0, lxAt xs k = x0 := ⟨_, rfl⟩
  rw [hx0] at hxs
  have HXS := Lib.hid hxs
  have HX0 := Lib.hid hx0
  clear hr hl hend hxs hx0
  go_enter Tryd.func45, Tryd.ntmps45
  go_wp2_with ((with_reducible refine sp_alloc ?_); intro c4 H4; obtain ⟨q0, q1, q2, q3⟩ := lx_at HL.out ((Below.refl _ _).alloc (Nat.le_refl _) (.cells c4 26)) HXS.out)
  refine (refIs_any x0 1 _ _).mono ?_
  rintro e w1 ⟨he, hb1⟩
  clear q0 q1 q2 q3
  have hb1' : Below (w.heap.size + 1) (w.alloc (.cells c4 26)) w1 := by rw [World.size_alloc] at hb1; exact hb1
  have HB1 := Lib.hid hb1'
  have hsz1 : w.heap.size + 1 ≤ w1.heap.size := by have := hb1'.size; rw [World.size_alloc] at this; exact this
  clear hb1 hb1'
  cases hm : lxIs x0 1 speciesW with
  | false =>
    have hmm : ((x0.kind == 1) && (x0.text == bts ⟨#[115, 112, 101, 99, 105, 101, 115]⟩)) = false := hm
    rw [hmm] at he
    subst he
    have hrz : r = (Sp.zero, k, false) := by rw [← HRR.out, stmtP, HX0.out, if_neg (by rw [hm]; decide)]
    subst hrz
    clear hm hmm
    have HG := Lib.hid ((HB1.out.block w.heap.size (by omega)).trans (heap_alloc_last w _))
    go_wp2_with (first
      | ((with_reducible refine wpList_buildAs (t := 26) (spCells Sp.zero).toArray ?hf ?_); (case hf => kernel_rfl); intro arr harr; have HARR := Lib.hid harr; clear harr)
      | ((with_reducible refine sp_put w.heap.size Sp.zero ?hx ?hy HG.out H4 ?_); (case hx => rfl); (case hy => (rw [← HARR.out]; rfl))))
    refine bodyPost_ret (v := .tuple #[.agg (spCells Sp.zero).toArray, .int .i64 k, .bool false]) ?_ rfl ⟨rfl, ?_⟩
    · exact results_cell3 Tryd.results45 _ _ w.heap.size 0 (spCells Sp.zero) rfl (rangeAt_block (setRow_heap _ _ _ _ _ _ HG.out)) Tryd.underlying26 rfl sp_info (.int .i64 k) (.bool false) rfl rfl
    exact (((Below.refl _ _).alloc (Nat.le_refl _) _).trans (HB1.out.mono (by omega))).setRow (Nat.le_refl _) _
  | true =>
    have hmm : ((x0.kind == 1) && (x0.text == bts ⟨#[115, 112, 101, 99, 105, 101, 115]⟩)) = true := hm
    rw [hmm] at he
    subst he
    have hk1 : k + 1 < xs.length := lxEnds_next HEND.out hk (by rw [HX0.out, lxIs_kind hm]; decide)
    have HM := Lib.hid (show lxIs (lxAt xs k) 1 speciesW = true by rw [HX0.out]; exact hm)
    have hxs1 := lxAt_some hk1
    obtain ⟨x1, hx1⟩ : ∃ x1, lxAt xs (k + 1) = x1 := ⟨_, rfl⟩
    rw [hx1] at hxs1
    have HXS1 := Lib.hid hxs1
    have HX1 := Lib.hid hx1
    have HBW1 := Lib.hid (((Below.refl w.heap.size w).alloc (Nat.le_refl _) (.cells c4 26)).trans (HB1.out.mono (by omega)))
    have HG := Lib.hid ((HB1.out.block w.heap.size (by omega)).trans (heap_alloc_last w _))
    obtain ⟨q0, q1, q2, q3⟩ := lx_at HL.out HBW1.out HXS1.out
    clear hm hmm hxs1 hx1
    cases hm2 : (x1.kind == 1) with
    | false =>
      have hne : (x1.kind != 1) = true := by rw [bne, hm2]; rfl
      have hrz : r = (Sp.zero, k + 1, false) := by rw [← HRR.out, stmtP, if_pos HM.out, HX1.out, if_neg (by rw [hm2]; decide)]
      subst hrz
      clear hm2
      go_wp2_with (first
        | ((with_reducible refine wpList_buildAs (t := 26) (spCells Sp.zero).toArray ?hf ?_); (case hf => kernel_rfl); intro arr harr; have HARR := Lib.hid harr; clear harr)
        | ((with_reducible refine sp_put w.heap.size Sp.zero ?hx ?hy HG.out H4 ?_); (case hx => rfl); (case hy => (rw [← HARR.out]; rfl))))
      refine bodyPost_ret (v := .tuple #[.agg (spCells Sp.zero).toArray, .int .i64 ((k : Int) + 1), .bool false]) ?_ rfl ⟨rfl, ?_⟩
      · exact results_cell3 Tryd.results45 _ _ w.heap.size 0 (spCells Sp.zero) rfl (rangeAt_block (setRow_heap _ _ _ _ _ _ HG.out)) Tryd.underlying26 rfl sp_info (.int .i64 ((k : Int) + 1)) (.bool false) rfl rfl
      exact HBW1.out.setRow (Nat.le_refl _) _
    | true =>
      have hne : (x1.kind != 1) = false := by rw [bne, hm2]; rfl
      have hk2 : k + 2 < xs.length := lxEnds_next HEND.out hk1 (by rw [HX1.out, beq_iff_eq.1 hm2]; decide)
      obtain ⟨R, hR⟩ : ∃ R, readNums xs wordsL (k + 2) [] = R := ⟨_, rfl⟩
      have HRS := Lib.hid (show (if R.2.2 then (mkSp x1.text R.1, if lxIs (lxAt xs R.2.1) 3 [59] then R.2.1 + 1 else R.2.1, lxIs (lxAt xs R.2.1) 3 [59]) else (Sp.zero, R.2.1, false)) = r by rw [← HRR.out, stmtP, if_pos HM.out, HX1.out, if_pos hm2, hR])
      have HR := Lib.hid hR
      clear hm2 hR
      go_wp2_with fail
      go_loopw [1, 8, 9] (fun p nv i wr => ∃ (j : Nat) (ns : List Int), j ≤ 12 ∧ i = .int .i64 j ∧ p = .int .i64 ((k + 2 + 2 * j : Nat) : Int) ∧ ns.length = j ∧ OwnsInt wr (w.heap.size + 1) nv ns ∧ k + 2 + 2 * j < xs.length ∧ readNums xs (wordsL.drop j) (k + 2 + 2 * j) ns = R ∧ Below (w.heap.size + 1) (w.alloc (.cells c4 26)) wr) (fun _ _ i _ => 12 - (intOf i).toNat)
      case atStart => exact ⟨0, [], by omega, rfl, rfl, rfl, ⟨rfl, .inl ⟨rfl, rfl⟩⟩, by omega, HR.out, HB1.out⟩
      case round =>
        obtain ⟨j, ns, hj, rfl, rfl, hnl, hown, hjx, hrn, hb⟩ := hrel
        clear q0 q1 q2 q3
        obtain ⟨m, hm⟩ : ∃ m, k + 2 + 2 * j = m := ⟨_, rfl⟩
        rw [hm] at hjx hrn ⊢
        have hszr : w.heap.size + 1 ≤ wr.heap.size := by have := hb.size; rw [World.size_alloc] at this; exact this
        have HOWN := Lib.hid hown
        have HRN := Lib.hid hrn
        have HB := Lib.hid hb
        clear hown hrn hb
        go_wp2_with fail
        refine (refWords_any _).mono ?_
        rintro e w2 ⟨v2, rfl, hown2, hb2⟩
        obtain ⟨B2, o2, c2, rfl, hcc2, _, _⟩ := words_form (j := 0) hown2 rfl
        have HB2 := Lib.hid (HB.out.trans (hb2.mono hszr))
        have HBW2 := Lib.hid (((Below.refl w.heap.size w).alloc (Nat.le_refl _) (.cells c4 26)).trans (HB2.out.mono (by omega)))
        have HOWN2 := Lib.hid (show OwnsInt w2 (w.heap.size + 1) u8 ns from ownsRow_below HOWN.out hb2)
        have hsz2 : w.heap.size + 1 ≤ w2.heap.size := Nat.le_trans hszr hb2.size
        clear hown2 hb2
        by_cases hjl : j < 12
        · obtain ⟨s, hws, _⟩ := words_index j hjl
          have hxj := lxAt_some hjx
          obtain ⟨x, hxe⟩ : ∃ x, lxAt xs m = x := ⟨_, rfl⟩
          have HST := Lib.hid (readNums_step hws HRN.out)
          rw [hxe] at hxj HST
          have HXJ := Lib.hid hxj
          have HXE := Lib.hid hxe
          have HWS := Lib.hid hws
          clear hxj hxe hws
          obtain ⟨q0, q1, q2, q3⟩ := lx_at HL.out HBW2.out HXJ.out
          have hb2l : b < w2.heap.size := by omega
          obtain ⟨q, hq⟩ : ∃ q, lxIs x 1 s = q := ⟨_, rfl⟩
          have HIS : Hid (∀ W, Calls Tryd.prog 62 #[.agg #[.int .i64 x.kind, .string (str x.text), .int .i64 x.num, .int .i64 x.off], .int .i64 1, .string (str s)] W fun e w' => e = .returned (.bool q) ∧ Below W.heap.size W w') := fun W => (refIs_any x 1 (str s) W).mono fun e w' ⟨he, hb⟩ => ⟨by rw [he, bts_str, ← hq]; rfl, hb⟩
          have HQ := Lib.hid hq
          have hj0 : (0 : Int) ≤ (j : Int) := by omega
          have hj1 : (j : Int) < 12 := by omega
          have hm0 : (0 : Int) ≤ (m : Int) := by omega
          have hm1 : (m : Int) < (xs.length : Int) := by omega
          clear hq
          go_wp2_with fail
          go_region_with (first
            | (go_at_call 40; refine (refWords_any _).mono ?_; rintro e w5 ⟨v5, rfl, hown5, hb5⟩; (have r0 := (hb5.cell (p := ⟨b, off + m * 4, none⟩) hb2l).trans q0); (have r1 := (hb5.cell (p := ⟨b, off + m * 4 + 1, none⟩) hb2l).trans q1); (have r2 := (hb5.cell (p := ⟨b, off + m * 4 + 2, none⟩) hb2l).trans q2); (have r3 := (hb5.cell (p := ⟨b, off + m * 4 + 3, none⟩) hb2l).trans q3); obtain ⟨B5, o5, c6, rfl, hcc5, hB5, hc5⟩ := words_form hown5 HWS.out; clear hown5)
            | (go_at_call 62; refine (HIS.out _).mono ?_; rintro e w6 ⟨rfl, hb6⟩))
          all_goals
            have hb26 := t_call (below_drew hb5) hb6
            have HB6 := Lib.hid (HB2.out.trans (hb26.mono hsz2))
            have hsz6 : w.heap.size + 1 ≤ w6.heap.size := Nat.le_trans hsz2 hb26.size
            have HOWN6 := Lib.hid (show OwnsInt w6 (w.heap.size + 1) u8 ns from ownsRow_below HOWN2.out hb26)
            clear hb26 hb5 hb6 hc5 q0 q1 q2 q3
            have HBW6 := Lib.hid (((Below.refl w.heap.size w).alloc (Nat.le_refl _) (.cells c4 26)).trans (HB6.out.mono (by omega)))
            have HG6 := Lib.hid ((HB6.out.block w.heap.size (by omega)).trans (heap_alloc_last w _))
            cases q with
            | false =>
              have hRz : R = (ns, m, false) := by rw [← HST.out, if_neg (by rw [HQ.out]; decide)]
              have hrz : r = (Sp.zero, m, false) := by rw [← HRS.out, hRz]; rfl
              subst hrz
              clear hRz
              go_wp2_with (first
                | ((with_reducible refine wpList_buildAs (t := 26) (spCells Sp.zero).toArray ?hf ?_); (case hf => kernel_rfl); intro arr harr; have HARR := Lib.hid harr; clear harr)
                | ((with_reducible refine sp_put w.heap.size Sp.zero ?hx ?hy HG6.out H4 ?_); (case hx => rfl); (case hy => (rw [← HARR.out]; rfl))))
              refine bodyPost_ret (v := .tuple #[.agg (spCells Sp.zero).toArray, .int .i64 m, .bool false]) ?_ rfl ⟨rfl, ?_⟩
              · exact results_cell3 Tryd.results45 _ _ w.heap.size 0 (spCells Sp.zero) rfl (rangeAt_block (setRow_heap _ _ _ _ _ _ HG6.out)) Tryd.underlying26 rfl sp_info (.int .i64 m) (.bool false) rfl rfl
              exact HBW6.out.setRow (Nat.le_refl _) _
            | true =>
              have hmx : m + 1 < xs.length := lxEnds_next HEND.out hjx (by rw [HXE.out, lxIs_kind HQ.out]; decide)
              have hys := lxAt_some hmx
              obtain ⟨y, hye⟩ : ∃ y, lxAt xs (m + 1) = y := ⟨_, rfl⟩
              have HST2 := Lib.hid (show (if (lxAt xs (m + 1)).kind == 2 then readNums xs (wordsL.drop (j + 1)) (m + 2) (ns ++ [(lxAt xs (m + 1)).num]) else (ns, m + 1, false)) = R by have h9 := HST.out; rw [if_pos HQ.out] at h9; exact h9)
              rw [hye] at hys HST2
              have HYS := Lib.hid hys
              have HYE := Lib.hid hye
              clear hys hye
              obtain ⟨s0, s1, s2, s3⟩ := lx_at HL.out HBW6.out HYS.out
              cases hk2' : (y.kind == 2) with
              | false =>
                have hne2 : (y.kind != 2) = true := by rw [bne, hk2']; rfl
                have hRz : R = (ns, m + 1, false) := by rw [← HST2.out, if_neg (by rw [hk2']; decide)]
                have hrz : r = (Sp.zero, m + 1, false) := by rw [← HRS.out, hRz]; rfl
                subst hrz
                clear hRz hk2'
                go_wp2_with (first
                  | ((with_reducible refine wpList_buildAs (t := 26) (spCells Sp.zero).toArray ?hf ?_); (case hf => kernel_rfl); intro arr harr; have HARR := Lib.hid harr; clear harr)
                  | ((with_reducible refine sp_put w.heap.size Sp.zero ?hx ?hy HG6.out H4 ?_); (case hx => rfl); (case hy => (rw [← HARR.out]; rfl))))
                refine bodyPost_ret (v := .tuple #[.agg (spCells Sp.zero).toArray, .int .i64 ((m : Int) + 1), .bool false]) ?_ rfl ⟨rfl, ?_⟩
                · exact results_cell3 Tryd.results45 _ _ w.heap.size 0 (spCells Sp.zero) rfl (rangeAt_block (setRow_heap _ _ _ _ _ _ HG6.out)) Tryd.underlying26 rfl sp_info (.int .i64 ((m : Int) + 1)) (.bool false) rfl rfl
                exact HBW6.out.setRow (Nat.le_refl _) _
              | true =>
                have hne2 : (y.kind != 2) = false := by rw [bne, hk2']; rfl
                have hmx2 : m + 2 < xs.length := lxEnds_next HEND.out hmx (by rw [HYE.out, beq_iff_eq.1 hk2']; decide)
                have HN := Lib.hid (show readNums xs (wordsL.drop (j + 1)) (m + 2) (ns ++ [y.num]) = R by have h9 := HST2.out; rw [if_pos hk2'] at h9; exact h9)
                clear hk2'
                go_wp2_with (at_builtin; refine append_int w6 rfl (.tmp 64) (.tmp 70) rfl (w.heap.size + 1) u8 ns rfl HOWN6.out (by omega) hsz6 y.num rfl ?_; intro v7 w7 hown7 hg7; have HOWN7 := Lib.hid hown7; have HG7 := Lib.hid hg7; clear hown7 hg7)
                refine ⟨⟨j + 1, ns ++ [y.num], by omega, by go_num, ?_, by rw [List.length_append, hnl]; rfl, HOWN7.out, by omega, ?_, ?_⟩, by simp [intOf]; omega⟩
                · rw [show k + 2 + 2 * (j + 1) = m + 1 + 1 by omega]; rfl
                · rw [show k + 2 + 2 * (j + 1) = m + 2 by omega]; exact HN.out
                · exact HB6.out.grown HG7.out hsz6 (fun g hg => (HOWN6.out.lt g hg).1)
        · have hj12 : j = 12 := by omega
          subst hj12
          have hxj := lxAt_some hjx
          obtain ⟨x, hxe⟩ : ∃ x, lxAt xs m = x := ⟨_, rfl⟩
          have hRe : R = (ns, m, true) := by have h9 := HRN.out; exact h9.symm
          have HRS2 := Lib.hid (show (mkSp x1.text ns, (if lxIs x 3 [59] then m + 1 else m), lxIs x 3 [59]) = r by have h9 := HRS.out; rw [hRe] at h9; rw [← hxe]; exact h9)
          rw [hxe] at hxj
          have HXJ := Lib.hid hxj
          clear hxj hxe hRe
          obtain ⟨q0, q1, q2, q3⟩ := lx_at HL.out HBW2.out HXJ.out
          go_wp2_with fail
          refine (refIs_any x 3 _ _).mono ?_
          rintro e w3 ⟨he, hb3⟩
          clear q0 q1 q2 q3
          have HB3 := Lib.hid (HB2.out.trans (hb3.mono hsz2))
          have hsz3 : w.heap.size + 1 ≤ w3.heap.size := Nat.le_trans hsz2 hb3.size
          have HOWN3 := Lib.hid (show OwnsInt w3 (w.heap.size + 1) u8 ns from ownsRow_below HOWN2.out hb3)
          clear hb3
          have HBW3 := Lib.hid (((Below.refl w.heap.size w).alloc (Nat.le_refl _) (.cells c4 26)).trans (HB3.out.mono (by omega)))
          have HG3 := Lib.hid ((HB3.out.block w.heap.size (by omega)).trans (heap_alloc_last w _))
          cases hm3 : lxIs x 3 [59] with
          | false =>
            have hmm : ((x.kind == 3) && (x.text == bts ⟨#[59]⟩)) = false := hm3
            rw [hmm] at he
            subst he
            have hrz : r = (mkSp x1.text ns, m, false) := by rw [← HRS2.out, hm3]; rfl
            subst hrz
            clear hm3 hmm
            go_wp2_with (first
              | ((with_reducible refine wpList_buildAs (t := 26) (spCells Sp.zero).toArray ?hf ?_); (case hf => kernel_rfl); intro arr harr; have HARR := Lib.hid harr; clear harr)
              | ((with_reducible refine sp_put w.heap.size Sp.zero ?hx ?hy HG3.out H4 ?_); (case hx => rfl); (case hy => (rw [← HARR.out]; rfl))))
            refine bodyPost_ret (v := .tuple #[.agg (spCells Sp.zero).toArray, .int .i64 m, .bool false]) ?_ rfl ⟨rfl, ?_⟩
            · exact results_cell3 Tryd.results45 _ _ w.heap.size 0 (spCells Sp.zero) rfl (rangeAt_block (setRow_heap _ _ _ _ _ _ HG3.out)) Tryd.underlying26 rfl sp_info (.int .i64 m) (.bool false) rfl rfl
            exact HBW3.out.setRow (Nat.le_refl _) _
          | true =>
            have hmm : ((x.kind == 3) && (x.text == bts ⟨#[59]⟩)) = true := hm3
            rw [hmm] at he
            subst he
            have hrz : r = (mkSp x1.text ns, m + 1, true) := by rw [← HRS2.out, hm3]; rfl
            subst hrz
            clear hm3 hmm
            obtain ⟨n0, n1, n2, n3, n4, n5, n6, n7, n8, n9, n10, n11, rfl⟩ := list12 hnl
            obtain ⟨g, cg, rfl, hgb, hgl, z0, z1, z2, z3, z4, z5, z6, z7, z8, z9, z10, z11⟩ := own12 HOWN3.out
            go_wp2_with fail
            obtain ⟨W1, hW1⟩ : ∃ W1, W1 = w3 := ⟨_, rfl⟩
            have hst : ∀ (W : World) (g : Nat), W.there g 0 13 → (storeCells ⟨g, 0, none⟩ [.string (str x1.text), .int .i64 n0, .int .i64 n1, .int .i64 n2, .int .i64 n3, .int .i64 n4, .int .i64 n5, .int .i64 n6, .int .i64 n7, .int .i64 n8, .int .i64 n9, .int .i64 n10, .int .i64 n11]).run Tryd.prog W = .ok () (W.setCells g 0 [.string (str x1.text), .int .i64 n0, .int .i64 n1, .int .i64 n2, .int .i64 n3, .int .i64 n4, .int .i64 n5, .int .i64 n6, .int .i64 n7, .int .i64 n8, .int .i64 n9, .int .i64 n10, .int .i64 n11]) := fun W g h => run_store_there W g _ 13 rfl (sp_mem (mkSp x1.text [n0, n1, n2, n3, n4, n5, n6, n7, n8, n9, n10, n11])) h
            have htn := sp_there
            have HCS : Hid (∀ W, Below w3.heap.size w3 W → Below w3.heap.size w3 W ∧ W.cell? ⟨g, 0, none⟩ = some (.int .i64 n0) ∧ W.cell? ⟨g, 1, none⟩ = some (.int .i64 n1) ∧ W.cell? ⟨g, 2, none⟩ = some (.int .i64 n2) ∧ W.cell? ⟨g, 3, none⟩ = some (.int .i64 n3) ∧ W.cell? ⟨g, 4, none⟩ = some (.int .i64 n4) ∧ W.cell? ⟨g, 5, none⟩ = some (.int .i64 n5) ∧ W.cell? ⟨g, 6, none⟩ = some (.int .i64 n6) ∧ W.cell? ⟨g, 7, none⟩ = some (.int .i64 n7) ∧ W.cell? ⟨g, 8, none⟩ = some (.int .i64 n8) ∧ W.cell? ⟨g, 9, none⟩ = some (.int .i64 n9) ∧ W.cell? ⟨g, 10, none⟩ = some (.int .i64 n10) ∧ W.cell? ⟨g, 11, none⟩ = some (.int .i64 n11)) := fun W hW => ⟨hW, (hW.cell (p := ⟨g, 0, none⟩) hgl).trans z0, (hW.cell (p := ⟨g, 1, none⟩) hgl).trans z1, (hW.cell (p := ⟨g, 2, none⟩) hgl).trans z2, (hW.cell (p := ⟨g, 3, none⟩) hgl).trans z3, (hW.cell (p := ⟨g, 4, none⟩) hgl).trans z4, (hW.cell (p := ⟨g, 5, none⟩) hgl).trans z5, (hW.cell (p := ⟨g, 6, none⟩) hgl).trans z6, (hW.cell (p := ⟨g, 7, none⟩) hgl).trans z7, (hW.cell (p := ⟨g, 8, none⟩) hgl).trans z8, (hW.cell (p := ⟨g, 9, none⟩) hgl).trans z9, (hW.cell (p := ⟨g, 10, none⟩) hgl).trans z10, (hW.cell (p := ⟨g, 11, none⟩) hgl).trans z11⟩
            set_option maxHeartbeats 400000 in
            go_region_held3 (fun W => Below w3.heap.size w3 W ∧ W.cell? ⟨g, 0, none⟩ = some (.int .i64 n0) ∧ W.cell? ⟨g, 1, none⟩ = some (.int .i64 n1) ∧ W.cell? ⟨g, 2, none⟩ = some (.int .i64 n2) ∧ W.cell? ⟨g, 3, none⟩ = some (.int .i64 n3) ∧ W.cell? ⟨g, 4, none⟩ = some (.int .i64 n4) ∧ W.cell? ⟨g, 5, none⟩ = some (.int .i64 n5) ∧ W.cell? ⟨g, 6, none⟩ = some (.int .i64 n6) ∧ W.cell? ⟨g, 7, none⟩ = some (.int .i64 n7) ∧ W.cell? ⟨g, 8, none⟩ = some (.int .i64 n8) ∧ W.cell? ⟨g, 9, none⟩ = some (.int .i64 n9) ∧ W.cell? ⟨g, 10, none⟩ = some (.int .i64 n10) ∧ W.cell? ⟨g, 11, none⟩ = some (.int .i64 n11))
              ((refine HCS.out _ ?_; with_reducible first | exact (Below.refl _ _).drew | exact (k0_alloc (Below.refl _ _)).drew | exact k0_alloc (And.left (by assumption)) | exact k0_set (And.left (by assumption)) (And.left (by assumption)).size | exact k0_set (And.left (by assumption)) (Nat.le_refl _)))
              (first | fail)
            rename_i hheld
            clear hheld hst htn HCS z0 z1 z2 z3 z4 z5 z6 z7 z8 z9 z10 z11
            obtain ⟨Y, hY⟩ : ∃ Y, mkSp x1.text [n0, n1, n2, n3, n4, n5, n6, n7, n8, n9, n10, n11] = Y := ⟨_, rfl⟩
            have hYC : (#[.string (str x1.text), .int .i64 n0, .int .i64 n1, .int .i64 n2, .int .i64 n3, .int .i64 n4, .int .i64 n5, .int .i64 n6, .int .i64 n7, .int .i64 n8, .int .i64 n9, .int .i64 n10, .int .i64 n11] : Array Value) = (spCells Y).toArray := by rw [← hY]; rfl
            obtain ⟨W5, hW5⟩ : ∃ W5, (w3.alloc (.cells (spCells Y).toArray 26)).drew = W5 := ⟨_, rfl⟩
            rw [hYC, hW5]
            have HYY := Lib.hid hY
            have HR5 := Lib.hid (show W5.rangeAt w3.heap.size 0 (spCells Y) by rw [← hW5]; exact rangeAt_block (heap_alloc_last w3 _))
            have HBW5 := Lib.hid (show Below w.heap.size w W5 by rw [← hW5]; exact (HBW3.out.alloc (by omega) _).drew)
            have HG5 := Lib.hid (show W5.heap[w.heap.size]? = some (.cells c4 26 (0, 0)) by rw [← hW5]; exact (Below.heap_alloc w3 _ w.heap.size (by omega)).trans HG3.out)
            clear hYC hW5 hY HRR HRS HRS2 HRN HOWN HOWN2 HOWN3 hnl
            go_wp2_with (first
              | ((with_reducible refine sp_load w3.heap.size 0 Y ?hx HR5.out ?_); (case hx => rfl))
              | ((with_reducible refine sp_put w.heap.size Y ?hx ?hy HG5.out H4 ?_); (case hx => rfl); (case hy => rfl)))
            refine bodyPost_ret (v := .tuple #[.agg (spCells Y).toArray, .int .i64 ((m : Int) + 1), .bool true]) ?_ rfl ⟨by rw [← HYY.out]; rfl, ?_⟩
            · exact results_cell3 Tryd.results45 _ _ w.heap.size 0 (spCells Y) rfl (rangeAt_block (setRow_heap _ _ _ _ _ _ HG5.out)) Tryd.underlying26 rfl sp_info (.int .i64 ((m : Int) + 1)) (.bool true) rfl rfl
            exact HBW5.out.setRow (Nat.le_refl _) _

end Go.Proofs.YtadflenmdfcflaaDoor
