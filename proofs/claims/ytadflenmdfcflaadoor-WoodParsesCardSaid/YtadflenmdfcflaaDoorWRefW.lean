/-
  The contract of sawmillref34.Parse.
-/
import Derived.Test.YtadflenmdfcflaaDoorWRefX
import Derived.Test.YtadflenmdfcflaaDoorRefC
import Derived.Test.YtadflenmdfcflaaDoorWoodI
namespace Go.Proofs.YtadflenmdfcflaaDoor
open Go.RowKit Saw Go.Sort

/-- One species appended to a row of the call's own. -/
theorem append_sp {ops : Array Oper} {rest : List Oper} {o : Oper} {a : Act} {Q : Exit → Act → World → Prop} (W : World) (hgd : o.guard = none) (s x : Operand)
    (ho : o.op = .call { callee := .builtin .append, args := #[s, x], argTypes := #[22, 22] })
    (base : Nat) (v : Value) (l : List Sp) (hs : a.eval s = v) (hown : OwnsSp W base v l) (hl : l.length ≤ 100000) (hbase : base ≤ W.heap.size)
    (y : Sp) (hx : a.eval x = .slice (some ⟨W.heap.size, 0, none⟩) 1 1)
    (h : ∀ v' w', OwnsSp w' base v' (l ++ [y]) → W.grownBy w' v.ownBlock → wpList Tryd.prog ops Q rest (a.put o.dst v') w') :
    wpList Tryd.prog ops Q (o :: rest) a (W.alloc (.cells (spCells y).toArray 26)) := by
  obtain ⟨i0, hi, hz0, hz1, hz2⟩ := info_parts info_sp
  refine wpList_append_own _ hgd s x 22 ho base 26 i0 _ 13 112 Tryd.underlying22 hi hz0 hz1 hz2 rfl (by decide) v l.length (spsCells l) hs (World.ownsRow.alloc hown _) ⟨W.heap.size, 0, none⟩ 1 1
    (spCells y) hx rfl (World.news_of_block (cs := (spCells y).toArray) (t := 26) (fr := (0, 0)) (heap_alloc_last W _)) (sp_mem y) (by simp only [maxLen]; omega) (by omega) (by rw [World.size_alloc]; omega) ?_
  intro v' w' hown' hg _
  refine h v' w' ?_ ?_
  · unfold OwnsSp
    rw [List.length_append, spsCells_snoc]
    exact hown'
  · exact ⟨hg.os, hg.tape, hg.output, by have := hg.size; rw [World.size_alloc] at this; omega, fun i hi hne => (hg.block i (by rw [World.size_alloc]; omega) hne).trans (Below.heap_alloc W _ i hi)⟩

theorem below_drewN {B : Nat} {w w' : World} (h : Below B w w') (n : Nat) : Below B w (w'.drewN n) := ⟨h.os, h.tape, h.output, h.size, h.block⟩
/-- One round of parseAll. -/
theorem parseAll_step {xs : List Lx} {n k : Nat} {acc : List Sp} {R : List Sp × Int × Int} {x : Lx} {y : Sp} {p : Nat} {ok : Bool} (h : parseAll xs n k acc = R) (hn : 0 < n) (hx : lxAt xs k = x) (hs : stmtP xs k = (y, p, ok)) :
    (if x.kind = 0 then (acc, 0, 0)
    else if ok = false then (acc, 5, (lxAt xs p).off)
    else if checkSp (acc ++ [y]) ≠ 0 then (acc ++ [y], checkSp (acc ++ [y]), x.off)
    else parseAll xs (n - 1) p (acc ++ [y])) = R := by
  obtain ⟨n', rfl⟩ : ∃ n', n = n' + 1 := ⟨n - 1, by omega⟩
  rw [parseAll, hx, hs] at h
  exact h

set_option maxRecDepth 100000 in
set_option maxHeartbeats 2000000 in
theorem refParse_any (s : ByteArray) (w : World) (hs : s.size ≤ 9223372036854775807) :
    Calls Tryd.prog 25 #[.string s] w (ParsePost (parseSp (bts s)) w) := by
  obtain ⟨r, hr⟩ : ∃ r, parseSp (bts s) = r := ⟨_, rfl⟩
  rw [hr]
  have HR := Lib.hid hr
  clear hr
  go_enter Tryd.func25, Tryd.ntmps25
  go_wp2_with fail
  refine (refScan_any s _ hs).mono ?_
  rintro e w1 ⟨v, he, ho, hb⟩
  obtain ⟨xs, er, at_, hsc⟩ : ∃ xs er at_, scanP (bts s) = (xs, er, at_) := ⟨_, _, _, rfl⟩
  rw [hsc] at he ho
  subst he
  have HB := Lib.hid hb
  have hsz := hb.size
  clear hb
  by_cases her : er = 0
  · subst her
    have hgood := scanP_good (bts s) (by rw [hsc])
    rw [hsc] at hgood
    obtain ⟨_, _, ⟨xs0, hxs0, hk0⟩, hlen, htx⟩ := hgood
    simp only at hxs0 hlen htx
    have hrd : RdLx w1 v xs := Rd.of_own ho
    have hends : LxEnds xs := by rw [hxs0]; exact ends_of hk0
    have hpos : 0 < xs.length := by rw [hxs0, List.length_append, List.length_singleton]; omega
    obtain ⟨_, _, A0, cc, rfl, hcc, _⟩ := id hrd
    obtain ⟨b, off, rfl, hbl, _⟩ := RdLx.at_ hrd (lxAt_some hpos)
    obtain ⟨R, hR⟩ : ∃ R, parseAll xs xs.length 0 [] = R := ⟨_, rfl⟩
    have HRS := Lib.hid (show (if R.2.1 ≠ 0 then ([], R.2.1, R.2.2) else (R.1, 0, 0)) = r by rw [← HR.out, parseSp, hsc]; simp [hR])
    have HRD := Lib.hid hrd
    have HENDS := Lib.hid hends
    have HTX := Lib.hid htx
    have HPA := Lib.hid hR
    clear hrd hends htx hsc ho hxs0 hk0 hR
    go_wp2_with fail
    go_loopw [8, 9] (fun ov i wr => ∃ (k n : Nat) (acc : List Sp), i = .int .i64 k ∧ k < xs.length ∧ xs.length - k ≤ n ∧ OwnsSp wr w1.heap.size ov acc ∧ Below w1.heap.size w1 wr ∧ parseAll xs n k acc = R ∧ acc.length ≤ k ∧ (∀ x ∈ acc, x.name.length ≤ 100000)) (fun _ i _ => xs.length - (intOf i).toNat)
    case atStart => exact ⟨0, xs.length, [], rfl, hpos, by omega, World.ownsRow_nil _ _ _ _, Below.refl _ _, HPA.out, Nat.le_refl _, by simp⟩
    case round =>
      obtain ⟨k, n, acc, rfl, hk, hn, hown, hb, hpa, hac, hnm⟩ := hrel
      have hszr := hb.size
      obtain ⟨x, hx⟩ : ∃ x, lxAt xs k = x := ⟨_, rfl⟩
      obtain ⟨y, p, ok, hst⟩ : ∃ y p ok, stmtP xs k = (y, p, ok) := ⟨_, _, _, rfl⟩
      have HST := Lib.hid (parseAll_step hpa (by omega) hx hst)
      have hxs := lxAt_some hk
      rw [hx] at hxs
      obtain ⟨q0, q1, q2, q3⟩ := lx_at HRD.out hb hxs
      have HOWN := Lib.hid hown
      have HBR := Lib.hid hb
      have HNM := Lib.hid hnm
      have HXS := Lib.hid hxs
      have HSTM := Lib.hid hst
      clear hown hb hpa hnm hx hxs hst
      by_cases hend : x.kind = 0
      · have hkb : (x.kind != 0) = false := by rw [hend]; rfl
        have hRz : R = (acc, 0, 0) := by rw [← HST.out, if_pos hend]
        have hrz : r = (acc, 0, 0) := by rw [← HRS.out, hRz]; rfl
        subst hrz
        clear hend hRz HST
        go_wp2_with fail
        go_ret3
        exact ⟨_, rfl, own_base HOWN.out hsz, HB.out.trans (HBR.out.mono hsz)⟩
      · have hkb : (x.kind != 0) = true := by rw [bne_iff_ne]; exact hend
        have HST2 := Lib.hid (show (if ok = false then (acc, 5, (lxAt xs p).off) else if checkSp (acc ++ [y]) ≠ 0 then (acc ++ [y], checkSp (acc ++ [y]), x.off) else parseAll xs (n - 1) p (acc ++ [y])) = R by have h9 := HST.out; rw [if_neg hend] at h9; exact h9)
        clear hend HST
        go_wp2_with fail
        refine (refStatement_any _ (.slice (some ⟨b, off, none⟩) xs.length cc) xs k (HRD.out.next HBR.out) hk (by omega) HENDS.out).mono ?_
        rintro e w3 ⟨he, hb3⟩
        have hin := stmtP_in HENDS.out hk
        have hyn : y.name.length ≤ 100000 := by have := stmtP_name HTX.out k; rw [HSTM.out] at this; exact Nat.le_trans this (by omega)
        rw [HSTM.out] at he hin
        have hgt : ok = true → k < p := fun h => by have := stmtP_gt (xs := xs) (k := k) (by rw [HSTM.out]; exact h); rw [HSTM.out] at this; exact this
        simp only at hin
        have HB3 := Lib.hid (HBR.out.trans (hb3.mono hszr))
        have hsz3 : w1.heap.size ≤ w3.heap.size := Nat.le_trans hszr hb3.size
        have HOWN3 := Lib.hid (show OwnsSp w3 w1.heap.size u8 acc from ownsRow_below HOWN.out hb3)
        clear hb3 q0 q1 q2 q3
        cases ok with
        | false =>
          simp only [Bool.false_eq_true, if_false] at he
          subst he
          obtain ⟨x', hxe⟩ : ∃ x', lxAt xs p = x' := ⟨_, rfl⟩
          have hx := lxAt_some hin
          rw [hxe] at hx
          have hRz : R = (acc, 5, x'.off) := by rw [← HST2.out, if_pos rfl, hxe]
          have hrz : r = ([], 5, x'.off) := by rw [← HRS.out, hRz]; rfl
          subst hrz
          clear hRz hxe hgt
          go_wp2_with (first
            | ((with_reducible refine sp_alloc ?_); intro c9 H9)
            | ((with_reducible refine sp_new Sp.zero w3.heap.size ?hx rfl ?hy H9 ?_); (case hx => rfl); (case hy => rfl)))
          obtain ⟨W4, hW4⟩ : ∃ W4, w3.alloc (.cells (spCells Sp.zero).toArray 26) = W4 := ⟨_, rfl⟩
          have hb4 : Below w1.heap.size w1 W4 := by rw [← hW4]; exact HB3.out.alloc hsz3 _
          rw [hW4]
          obtain ⟨q0, q1, q2, q3⟩ := lx_at HRD.out hb4 hx
          have HB4 := Lib.hid hb4
          clear hW4 hb4 hx
          go_quiet (fail)
          go_wp2_with fail
          go_ret3
          exact ⟨_, rfl, World.ownsRow_nil _ _ _ _, HB.out.trans ((below_drewN HB4.out _).mono hsz)⟩
        | true =>
          simp only [if_true] at he
          subst he
          have HST3 := Lib.hid (show (if checkSp (acc ++ [y]) ≠ 0 then (acc ++ [y], checkSp (acc ++ [y]), x.off) else parseAll xs (n - 1) p (acc ++ [y])) = R from HST2.out)
          have hkp := hgt rfl
          have HOWN4 := Lib.hid (show OwnsSp (w3.alloc (.cells (spCells y).toArray 26)) w1.heap.size u8 acc from World.ownsRow.alloc HOWN3.out _)
          have hal : acc.length ≤ 100000 := by omega
          have hsz4 : w1.heap.size ≤ (w3.alloc (.cells (spCells y).toArray 26)).heap.size := by rw [World.size_alloc]; omega
          clear hgt
          go_wp2_with (first
            | ((with_reducible refine sp_alloc ?_); intro c9 H9)
            | ((with_reducible refine sp_new y w3.heap.size ?hx rfl ?hy H9 ?_); (case hx => rfl); (case hy => rfl))
            | ((with_reducible refine sp_load w3.heap.size 0 y ?hx (rangeAt_block (heap_alloc_last w3 _)) ?_); (case hx => rfl))
            | ((with_reducible refine wpList_sliceAs (t := 22) 13 (spCells y).toArray Tryd.underlying22 sp_info sp_zero ?h1 ?h2 ?hf ?_); (case h1 => decide); (case h2 => decide); (case hf => kernel_rfl); intro arr harr; subst harr)
            | (at_builtin; refine append_sp _ rfl (.tmp 44) (.tmp 46) rfl w1.heap.size u8 acc rfl HOWN4.out hal hsz4 y rfl ?_; intro v7 w7 hown7 hg7; have HOWN7 := Lib.hid hown7; have HG7 := Lib.hid hg7; clear hown7 hg7))
          have HB7 := Lib.hid ((HB3.out.alloc hsz3 (.cells (spCells y).toArray 26)).grown HG7.out hsz4 (fun g hg => (HOWN4.out.lt g hg).1))
          have hsz7 := HB7.out.size
          have HNM7 := Lib.hid (show ∀ z ∈ acc ++ [y], z.name.length ≤ 100000 from fun z hz => by
            rcases List.mem_append.1 hz with hz | hz
            · exact HNM.out z hz
            · rw [List.mem_singleton.1 hz]; exact hyn)
          refine (refCheck_any (acc ++ [y]) _ _ (Rd.of_own HOWN7.out) (fun z hz => Nat.le_trans (HNM7.out z hz) (by omega))).mono ?_
          rintro e w8 ⟨he, hb8⟩
          obtain ⟨q, hq⟩ : ∃ q, checkSp (acc ++ [y]) = q := ⟨_, rfl⟩
          rw [hq] at he
          subst he
          have HB8 := Lib.hid (HB7.out.trans (hb8.mono hsz7))
          have HOWN8 := Lib.hid (show OwnsSp w8 w1.heap.size v7 (acc ++ [y]) from ownsRow_below HOWN7.out hb8)
          clear hb8
          by_cases hq0 : q = 0
          · subst hq0
            have HN := Lib.hid (show parseAll xs (n - 1) p (acc ++ [y]) = R by have h9 := HST3.out; rw [if_neg (by rw [hq]; simp)] at h9; exact h9)
            clear hq
            go_wp2_with fail
            exact ⟨⟨p, n - 1, acc ++ [y], rfl, hin, by omega, HOWN8.out, HB8.out, HN.out, by rw [List.length_append]; simp only [List.length_cons, List.length_nil]; omega, HNM7.out⟩, by simp [intOf]; omega⟩
          · have hRz : R = (acc ++ [y], q, x.off) := by rw [← HST3.out, if_pos (by rw [hq]; exact hq0), hq]
            have hrz : r = ([], q, x.off) := by rw [← HRS.out, hRz]; simp [hq0]
            have hqb : (q != 0) = true := by rw [bne_iff_ne]; exact hq0
            subst hrz
            clear hRz hq hq0
            obtain ⟨q0, q1, q2, q3⟩ := lx_at HRD.out HB8.out HXS.out
            go_wp2_with fail
            go_quiet (fail)
            go_wp2_with fail
            go_ret3
            exact ⟨_, rfl, World.ownsRow_nil _ _ _ _, HB.out.trans ((below_drewN HB8.out _).mono hsz)⟩
  · have heb : (er != 0) = true := by rw [bne_iff_ne]; exact her
    have hrz : r = ([], er, at_) := by rw [← HR.out, parseSp, hsc]; simp [her]
    subst hrz
    clear her hsc ho
    go_wp2_with fail
    go_ret3
    exact ⟨_, rfl, World.ownsRow_nil _ _ _ _, HB.out⟩

end Go.Proofs.YtadflenmdfcflaaDoor
