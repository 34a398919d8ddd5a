/-
  WoodFinds walked.
-/
import Derived.Test.YtadflenmdfcflaaDoorWLaw3
namespace Go.Proofs.YtadflenmdfcflaaDoor
open Go.RowKit Saw Go.Sort

/-- The lists of a law that came in, small: what the contracts ask. -/
theorem small_names {l : List Sp} (h : smallP l = true) : l.length ≤ 20 ∧ ∀ x ∈ l, x.name.length ≤ 100 := by
  rw [smallP, Bool.and_eq_true] at h
  exact ⟨of_decide_eq_true h.1, fun x hx => of_decide_eq_true (List.all_eq_true.1 h.2 x hx)⟩

theorem any_take {l : List Sp} {k : Nat} {x : Sp} (p : Sp → Bool) (hx : l[k]? = some x) : (l.take (k + 1)).any p = ((l.take k).any p || p x) := by
  rw [List.take_add_one, hx]
  simp

set_option maxRecDepth 100000 in
set_option maxHeartbeats 1000000 in
theorem woodFinds_walk (A : Option Addr) (n c : Nat) (l : List Sp) (nm : ByteArray) (w : World) (h : RdSp w (.slice A n c) l ∧ ∀ x ∈ l, SpOk x) (hn : nm.size ≤ maxLen) (hv : Vars w) :
    Calls Tryd.prog 9 #[.slice A n c, .string nm] w (LawPost w) := by
  obtain ⟨hrd, hok⟩ := h
  obtain ⟨_, _, he, hc, hml⟩ := hrd.form
  injection he with e1 e2 e3
  subst e1 e2 e3
  unfold maxLen at hml hn
  have HRD := Lib.hid hrd
  have HOK := Lib.hid (show ∀ x ∈ l, x.name.length ≤ 9223372036854775807 from fun x hx => by have := (hok x hx).1; unfold maxLen at this; omega)
  have HV := Lib.hid hv
  clear hrd hok hv
  go_enter Tryd.func9, Tryd.ntmps9
  go_wp2_with fail
  refine (small_any _ _ _ l _ HRD.out HOK.out).mono ?_
  rintro e w0 ⟨he, rfl⟩
  cases hsm : smallP l with
  | false =>
    rw [hsm] at he
    subst he
    clear hsm
    go_wp2_with fail
    refine (awake_any _ HV.out).mono ?_
    rintro e w1 ⟨rfl, hb1⟩
    have HB1 := Lib.hid hb1
    clear hb1
    go_wp2_with fail
    go_ret
    exact ⟨rfl, HB1.out⟩
  | true =>
    rw [hsm] at he
    subst he
    obtain ⟨h20, hnm⟩ := small_names hsm
    have HNM := Lib.hid (show ∀ x ∈ l, x.name.length ≤ 1000000 from fun x hx => Nat.le_trans (hnm x hx) (by omega))
    clear hsm hnm
    by_cases h100 : 100 < nm.size
    · go_wp2_with fail
      refine (awake_any _ HV.out).mono ?_
      rintro e w1 ⟨rfl, hb1⟩
      have HB1 := Lib.hid hb1
      clear hb1
      go_wp2_with fail
      go_ret
      exact ⟨rfl, HB1.out⟩
    · go_wp2_with fail
      refine (check_any l _ _ HRD.out HNM.out).mono ?_
      rintro e w1 ⟨he, hb1⟩
      obtain ⟨q, hq⟩ : ∃ q, checkSp l = q := ⟨_, rfl⟩
      rw [hq] at he
      subst he
      have HB1 := Lib.hid hb1
      have hsz1 := hb1.size
      have HV1 := Lib.hid (HV.out.below hb1)
      clear hb1
      by_cases hq0 : q = 0
      · subst hq0
        have HALL := Lib.hid (checkSp_all hq).2
        clear hq
        go_wp2_with fail
        go_loopw [5, 6] (fun kn i wr => ∃ k : Nat, k ≤ l.length ∧ i = .int .i64 k ∧ kn = .bool ((l.take k).any fun x => x.name == bts nm) ∧ Below w.heap.size w wr) (fun _ i _ => l.length - (intOf i).toNat)
        case atStart => exact ⟨0, by omega, rfl, rfl, HB1.out⟩
        case round =>
          obtain ⟨k, hk, rfl, rfl, hbr⟩ := hrel
          have HBR := Lib.hid hbr
          have hszr := hbr.size
          have HRDR := Lib.hid (HRD.out.next hbr)
          have HVR := Lib.hid (HV.out.below hbr)
          clear hbr
          by_cases hlt : k < l.length
          · obtain ⟨x, hx, _, hfn, _⟩ := HALL.out k hlt
            obtain ⟨b, off, rfl, hbl, hrg⟩ := RdSp.at_ HRDR.out hx
            have hc0 := hrg 0 _ (spC0 x)
            rw [Nat.add_zero] at hc0
            have HRG := Lib.hid hrg
            have HFS := Lib.hid (find_self hx hfn)
            have hat := any_take (fun y => y.name == bts nm) hx
            obtain ⟨kn, hkn⟩ : ∃ kn, ((l.take k).any fun x => x.name == bts nm) = kn := ⟨_, rfl⟩
            rw [hkn] at hat ⊢
            have HAT := Lib.hid hat
            have hse := str_eq x.name nm
            clear hx hfn hrg hat hkn
            go_wp2_with fail
            refine (find_any l _ _ _ HRDR.out).mono ?_
            rintro e w2 ⟨he, hb2⟩
            rw [bts_str, HFS.out] at he
            have he' : e = .returned (.tuple #[.agg (spCells x).toArray, .bool true]) := he
            subst he'
            have HB2 := Lib.hid hb2
            have hbl2 : b < w2.heap.size := Nat.lt_of_lt_of_le hbl hb2.size
            have HRG2 := Lib.hid (rangeAt_below hb2 hbl HRG.out)
            have hc2 : w2.cell? ⟨b, off + k * 13, none⟩ = some (.string (str x.name)) := (hb2.cell (p := ⟨b, off + k * 13, none⟩) hbl).trans hc0
            clear hb2 he hc0
            go_wp2_with (first
              | ((with_reducible refine sp_alloc ?_); intro c7 H7)
              | ((with_reducible refine sp_new x w2.heap.size ?hx rfl ?hy H7 ?_); (case hx => rfl); (case hy => rfl)))
            have hneq : ∀ W, (binOp .neq 26 (.agg (spCells x).toArray) (.agg (spCells x).toArray)).run Tryd.prog W = .ok (.bool false) W := fun W => by rw [neq_sp]; rw [decide_eq_true rfl]; rfl
            have hgd := fun W x' y' xs ys => run_eqGuard_agg (P := Tryd.prog) W .neq 26 x' y' xs ys guard_sp
            obtain ⟨N, hN⟩ : ∃ N, w2.heap.size = N := ⟨_, rfl⟩
            obtain ⟨W3, hW3⟩ : ∃ W3, w2.alloc (.cells (spCells x).toArray 26) = W3 := ⟨_, rfl⟩
            have hrn : W3.rangeAt N 0 (spCells x) := by rw [← hW3, ← hN]; exact rangeAt_block (heap_alloc_last w2 _)
            have hrb : W3.rangeAt b (off + k * 13) (spCells x) := by rw [← hW3]; exact rangeAt_alloc hbl2 HRG2.out _
            have hz3 : N + 1 = W3.heap.size := by rw [← hW3, World.size_alloc, hN]
            have hNl : N < W3.heap.size := by omega
            have hbl3 : b < W3.heap.size := by omega
            have hb3 : Below w.heap.size w W3 := by rw [← hW3]; exact (HBR.out.trans (HB2.out.mono hszr)).alloc (Nat.le_trans hszr HB2.out.size) _
            have hc3 : W3.cell? ⟨b, off + k * 13, none⟩ = some (.string (str x.name)) := by rw [← hW3]; exact rangeAt_alloc hbl2 (fun j v hv => HRG2.out j v hv) _ 0 _ (spC0 x)
            rw [hW3, hN]
            have HRN := Lib.hid hrn
            have HRB := Lib.hid hrb
            have HB3 := Lib.hid hb3
            have hk0 : (0 : Int) ≤ (k : Int) := by omega
            have hk1 : (k : Int) < (l.length : Int) := by omega
            clear hN hW3 hrn hrb hb3 hz3 hc2
            refine wp_region_quiet_below (by kernel_rfl) (by kernel_rfl) ?_
            repeat (first
              | ((with_reducible refine quiet_load N 0 (spCells x) ?hw ?hx HRN.out hNl Tryd.underlying26 ?hd ?hi ?_); (case hi => exact sp_info); (case hw => kernel_rfl); (case hx => rfl); (case hd => rfl))
              | ((with_reducible refine quiet_load b (off + k * 13) (spCells x) ?hw ?hx HRB.out hbl3 Tryd.underlying26 ?hd ?hi ?_); (case hi => exact sp_info); (case hw => kernel_rfl); (case hx => rfl); (case hd => rfl))
              | (quiet_step (fail)))
            refine wpQuiet_nil ?_
            rintro w6 ⟨p6, hw6⟩
            have hb6 : Below W3.heap.size W3 w6 := by rw [hw6]; exact below_regrown _ _ _
            have hc6 := (hb6.cell (p := ⟨b, off + k * 13, none⟩) hbl3).trans hc3
            have HB6 := Lib.hid (HB3.out.trans (hb6.mono HB3.out.size))
            clear hw6 hb6 hneq hgd hc3
            cases kn with
            | true =>
              go_wp2_with fail
              exact ⟨⟨k + 1, by omega, by go_num, by rw [HAT.out]; rfl, HB6.out⟩, by simp [intOf]; omega⟩
            | false =>
              cases hnx : (x.name == bts nm) with
              | true =>
                rw [hnx] at hse
                have HNX := Lib.hid hnx
                clear hnx
                go_wp2_with fail
                exact ⟨⟨k + 1, by omega, by go_num, by rw [HAT.out, HNX.out]; rfl, HB6.out⟩, by simp [intOf]; omega⟩
              | false =>
                rw [hnx] at hse
                have HNX := Lib.hid hnx
                clear hnx
                go_wp2_with fail
                exact ⟨⟨k + 1, by omega, by go_num, by rw [HAT.out, HNX.out]; rfl, HB6.out⟩, by simp [intOf]; omega⟩
          · have hke : k = l.length := by omega
            subst hke
            rw [List.take_length, ← find_any_eq]
            obtain ⟨fo, hfo⟩ : ∃ fo, (findSp l (bts nm)).isSome = fo := ⟨_, rfl⟩
            rw [hfo]
            have HFO := Lib.hid hfo
            clear hfo
            go_wp2_with fail
            refine (find_any l _ _ _ HRDR.out).mono ?_
            rintro e w2 ⟨he, hb2⟩
            have hb2' := HBR.out.trans (hb2.mono hszr)
            have HB2 := Lib.hid hb2'
            have hsz2 := hb2'.size
            have heq : ∀ W, (binOp .eql 26 (.agg (spCells Sp.zero).toArray) (.agg (spCells Sp.zero).toArray)).run Tryd.prog W = .ok (.bool true) W := fun W => by rw [eql_sp]; rw [decide_eq_true rfl]
            have hgd := fun W x' y' xs ys => run_eqGuard_agg (P := Tryd.prog) W .eql 26 x' y' xs ys guard_sp
            clear hb2 hb2'
            cases hr : findSp l (bts nm) with
            | some y =>
              have hft : fo = true := by rw [← HFO.out, hr]; rfl
              subst hft
              rw [hr] at he
              have he' : e = .returned (.tuple #[.agg (spCells y).toArray, .bool true]) := he
              subst he'
              clear hr he
              go_wp2_with (first
                | ((with_reducible refine sp_alloc ?_); intro c7 H7)
                | ((with_reducible refine sp_new y w2.heap.size ?hx rfl ?hy H7 ?_); (case hx => rfl); (case hy => rfl)))
              have HB6 := Lib.hid (HB2.out.alloc hsz2 (.cells (spCells y).toArray 26))
              refine (awake_any _ (HV.out.below HB6.out)).mono ?_
              rintro e w7 ⟨rfl, hb7⟩
              have HB7 := Lib.hid (HB6.out.trans (hb7.mono HB6.out.size))
              clear hb7
              go_wp2_with fail
              go_ret
              exact ⟨rfl, HB7.out⟩
            | none =>
              have hft : fo = false := by rw [← HFO.out, hr]; rfl
              subst hft
              rw [hr] at he
              have he' : e = .returned (.tuple #[.agg (spCells Sp.zero).toArray, .bool false]) := he
              subst he'
              clear hr he
              go_wp2_with (first
                | ((with_reducible refine sp_alloc ?_); intro c7 H7)
                | ((with_reducible refine sp_new Sp.zero w2.heap.size ?hx rfl ?hy H7 ?_); (case hx => rfl); (case hy => rfl))
                | ((with_reducible refine wpList_gload w2.heap.size 0 (spCells Sp.zero) ?hw ?hx ?hc Tryd.underlying26 ?hd ?hi ?_); (case hi => exact sp_info); (case hw => kernel_rfl); (case hx => rfl); (case hd => rfl); (case hc => exact rangeAt_block (heap_alloc_last w2 _)))
                | ((with_reducible refine wpList_gbuild (t := 26) (spCells Sp.zero).toArray ?hw ?hf ?_); (case hw => kernel_rfl); (case hf => kernel_rfl)))
              have HB6 := Lib.hid (HB2.out.alloc hsz2 (.cells (spCells Sp.zero).toArray 26))
              refine (awake_any _ (HV.out.below HB6.out)).mono ?_
              rintro e w7 ⟨rfl, hb7⟩
              have HB7 := Lib.hid (HB6.out.trans (hb7.mono HB6.out.size))
              clear hb7
              go_wp2_with fail
              go_ret
              exact ⟨rfl, HB7.out⟩
      · have hqb : (q != 0) = true := by rw [bne_iff_ne]; exact hq0
        clear hq hq0
        go_wp2_with fail
        refine (awake_any _ HV1.out).mono ?_
        rintro e w2 ⟨rfl, hb2⟩
        have HB2 := Lib.hid (HB1.out.trans (hb2.mono hsz1))
        clear hb2
        go_wp2_with fail
        go_ret
        exact ⟨rfl, HB2.out⟩

end Go.Proofs.YtadflenmdfcflaaDoor
