/-
  The law's function awake (chapter 34) returns true.
-/
import Derived.Test.YtadflenmdfcflaaDoorWoodI
import Derived.Test.YtadflenmdfcflaaDoorWoodJ
import Derived.Test.YtadflenmdfcflaaDoorWoodE
import Derived.Test.YtadflenmdfcflaaDoorSpEq
import Derived.Test.YtadflenmdfcflaaDoorPlainA
import Derived.Test.YtadflenmdfcflaaDoorQuiet
namespace Saw
def pineT : List UInt8 := [115, 112, 101, 99, 105, 101, 115, 32, 112, 105, 110, 101, 32, 103, 114, 101, 101, 110, 32, 57, 48, 48, 48, 32, 102, 97, 115, 116, 32, 53, 48, 48, 32, 115, 108, 111, 119, 32, 56, 48, 32, 115, 97, 102, 101, 32, 54, 48, 48, 32, 103, 114, 97, 100, 105, 101, 110, 116, 32, 50, 53, 48, 48, 32, 99, 114, 97, 99, 107, 32, 50, 48, 48, 48, 48, 32, 116, 101, 109, 112, 32, 56, 48, 48, 32, 100, 101, 112, 114, 101, 115, 115, 32, 50, 53, 48, 32, 100, 101, 110, 115, 105, 116, 121, 32, 52, 56, 48, 32, 115, 116, 105, 102, 102, 32, 49, 49, 48, 48, 48, 32, 107, 110, 111, 116, 115, 32, 52, 48, 48, 32, 115, 104, 114, 105, 110, 107, 32, 54, 48, 59, 10]
def oakT : List UInt8 := [115, 112, 101, 99, 105, 101, 115, 32, 111, 97, 107, 32, 103, 114, 101, 101, 110]
def wordNumF (p : List UInt8 × Int) : List UInt8 := 32 :: p.1 ++ 32 :: decF 18 p.2.toNat
theorem wordNumF_eq (p : List UInt8 × Int) (h0 : 0 ≤ p.2) (h1 : p.2 ≤ 1000000) : wordNum p = wordNumF p := by
  rw [wordNum, wordNumF, itoa_decF _ h0 (by omega)]
def spTextF (x : Sp) : List UInt8 := spHead x ++ (wordsL.zip x.nums).flatMap wordNumF ++ [59, 10]
theorem spTextF_eq {x : Sp} (h : inRangeP x = true) : spText x = spTextF x := by
  have h2 := inRange_bd h
  have : (wordsL.zip x.nums).flatMap wordNum = (wordsL.zip x.nums).flatMap wordNumF := by
    have : ∀ p ∈ wordsL.zip x.nums, wordNum p = wordNumF p := fun p hp => wordNumF_eq p (h2 _ (List.of_mem_zip hp).2).1 (h2 _ (List.of_mem_zip hp).2).2
    simp only [List.flatMap]
    rw [List.map_congr_left this]
  rw [spText, spTextF, this]
theorem aw_oak : parseSp oakT = ([], 5, 17) := by kernel_rfl
theorem aw_pine : parseSp pineT = ([sp_pine], 0, 0) := by kernel_rfl
theorem aw_check : checkSp stdSp = 0 := by kernel_rfl
theorem aw_check1 : checkSp [sp_pine] = 0 := by kernel_rfl
theorem aw_format : formatSp [sp_pine] = pineT := by
  rw [formatSp, if_pos aw_check1, List.flatMap_cons, List.flatMap_nil, List.append_nil, spTextF_eq (by kernel_rfl)]
  kernel_rfl
theorem aw_find : findSp stdSp [115, 112, 114, 117, 99, 101] = some sp_spruce := by kernel_rfl
theorem aw_s1 : shrunkP sp_spruce.shrink 100 1200 = 97 := by kernel_rfl
theorem aw_s2 : shrunkP sp_spruce.shrink 100 4000 = 100 := by kernel_rfl
theorem aw_s3 : shrunkP sp_spruce.shrink 100 (-5) = 94 := by kernel_rfl
end Saw
namespace Go.Proofs.YtadflenmdfcflaaDoor
open Go.RowKit Saw Go.Sort

/-- The package-level variables that the walks read. -/
def Vars (w : World) : Prop := w.rangeAt 0 0 wordCells ∧ Pow w ∧ 4 ≤ w.heap.size
theorem Vars.below {w w' : World} (h : Vars w) (hb : Below w.heap.size w w') : Vars w' :=
  ⟨rangeAt_below hb (by have := h.2.2; omega) h.1, h.2.1.below hb (by have := h.2.2; omega), Nat.le_trans h.2.2 hb.size⟩

theorem parse_at (l : List UInt8) (r : List Sp × Int × Int) (w : World) (hv : Vars w) (hn : l.length ≤ 100000) (h : parseSp l = r) :
    Calls Tryd.prog 24 #[.string ⟨l.toArray⟩] w fun e w' => ∃ A c, e = .returned (.tuple #[.slice A r.1.length c, .int .i64 r.2.1, .int .i64 r.2.2]) ∧ RdSp w' (.slice A r.1.length c) r.1 ∧ Below w.heap.size w w' := by
  have hl : bts ⟨l.toArray⟩ = l := bts_str l
  refine (parse_any ⟨l.toArray⟩ w (by rw [size_bts, hl]; omega) hv.1 (by have := hv.2.2; omega)).mono ?_
  rintro e w' ⟨v, he, hown, hb⟩
  rw [hl, h] at he hown
  have hrd : RdSp w' v r.1 := Rd.of_own hown
  obtain ⟨A, c, rfl, _, _⟩ := hrd.form
  exact ⟨A, c, he, hrd, hb⟩
theorem RdSp.next {w w' : World} {v : Value} {l : List Sp} (h : RdSp w v l) (hb : Below w.heap.size w w') : RdSp w' v l := Rd.next h hb

set_option maxRecDepth 100000 in
set_option maxHeartbeats 1000000 in
theorem awake_any (w : World) (hv : Vars w) : Calls Tryd.prog 12 #[] w fun e w' => e = .returned (.bool true) ∧ Below w.heap.size w w' := by
  have HV := Lib.hid hv
  clear hv
  go_enter Tryd.func12, Tryd.ntmps12
  go_wp2_with fail
  refine (standard_any _).mono ?_
  rintro e w1 ⟨v, rfl, hown, hb1⟩
  have hrd1 : RdSp w1 v stdSp := Rd.of_own hown
  obtain ⟨A, c, rfl, _, _⟩ := hrd1.form
  have HR1 := Lib.hid hrd1
  have HB1 := Lib.hid hb1
  have HV1 := Lib.hid (HV.out.below hb1)
  clear hrd1 hb1 hown
  go_wp2_with fail
  refine (find_any stdSp _ _ _ HR1.out).mono ?_
  rintro e w2 ⟨he, hb2⟩
  rw [show bts ⟨#[115, 112, 114, 117, 99, 101]⟩ = [115, 112, 114, 117, 99, 101] from rfl, aw_find] at he
  have he' : e = .returned (.tuple #[.agg (spCells sp_spruce).toArray, .bool true]) := he
  subst he'
  have HR2 := Lib.hid (HR1.out.next hb2)
  have HB2 := Lib.hid (HB1.out.trans (hb2.mono HB1.out.size))
  have HV2 := Lib.hid (HV1.out.below hb2)
  clear hb2 he
  go_wp2_with (first
    | ((with_reducible refine sp_alloc ?_); intro c2 H2)
    | ((with_reducible refine sp_new sp_spruce w2.heap.size ?hx rfl ?hy H2 ?_); (case hx => rfl); (case hy => rfl)))
  obtain ⟨W3, hW3⟩ : ∃ W3, w2.alloc (.cells (spCells sp_spruce).toArray 26) = W3 := ⟨_, rfl⟩
  obtain ⟨N, hN⟩ : ∃ N, w2.heap.size = N := ⟨_, rfl⟩
  have ha := (Below.refl w2.heap.size w2).alloc (Nat.le_refl _) (.cells (spCells sp_spruce).toArray 26)
  have hn3 : W3.heap[N]? = some (.cells (spCells sp_spruce).toArray 26 (0, 0)) := by rw [← hW3, ← hN]; exact heap_alloc_last w2 _
  rw [hW3] at ha
  have HN3 := Lib.hid hn3
  have HR3 := Lib.hid (HR2.out.next ha)
  have HB3 := Lib.hid (HB2.out.trans (ha.mono HB2.out.size))
  have HV3 := Lib.hid (HV2.out.below ha)
  rw [hW3, hN]
  clear ha hW3 hN hn3
  refine (parse_at oakT ([], 5, 17) _ HV3.out (by decide) aw_oak).mono ?_
  rintro e w4 ⟨A4, c4, rfl, _, hb4⟩
  have HN4 := Lib.hid ((hb4.block N (hp_lt HN3.out)).trans HN3.out)
  have HR4 := Lib.hid (HR3.out.next hb4)
  have HB4 := Lib.hid (HB3.out.trans (hb4.mono HB3.out.size))
  have HV4 := Lib.hid (HV3.out.below hb4)
  clear hb4
  go_wp2_with fail
  refine (parse_at pineT ([sp_pine], 0, 0) _ HV4.out (by decide) aw_pine).mono ?_
  rintro e w5 ⟨A5, c5, rfl, hrd5, hb5⟩
  have HP5 := Lib.hid hrd5
  have HN5 := Lib.hid ((hb5.block N (hp_lt HN4.out)).trans HN4.out)
  have HR5 := Lib.hid (HR4.out.next hb5)
  have HB5 := Lib.hid (HB4.out.trans (hb5.mono HB4.out.size))
  have HV5 := Lib.hid (HV4.out.below hb5)
  clear hb5 hrd5
  go_wp2_with fail
  obtain ⟨b1, o1, rfl, hb1, hr1⟩ := RdSp.at_ HR5.out (i := 0) (x := sp_pine) rfl
  obtain ⟨b7, o7, rfl, hb7, hr7⟩ := RdSp.at_ HP5.out (i := 0) (x := sp_pine) rfl
  have HL1 := Lib.hid hr1
  have HL7 := Lib.hid hr7
  have hN5 := hp_lt HN5.out
  have HLN := Lib.hid (rangeAt_block HN5.out)
  have hcn : ∀ d os, (grow (redrawn w5 d) os).cell? ⟨N, 1, none⟩ = some (.int .i64 8000) := fun d os => cell_regrown (by rw [cell_of_row w5 N 1 _ _ (0, 0) HN5.out]; rfl) d os
  have heq : ∀ W, (binOp .eql 26 (.agg (spCells sp_pine).toArray) (.agg (spCells sp_pine).toArray)).run Tryd.prog W = .ok (.bool true) W := fun W => by rw [eql_sp]; rw [decide_eq_true rfl]
  have hgd := fun W x' y' xs ys => run_eqGuard_agg (P := Tryd.prog) W .eql 26 x' y' xs ys guard_sp
  have S1 : Hid (∀ W, Calls Tryd.prog 20 #[.agg (spCells sp_spruce).toArray, .int .i64 100, .int .i64 1200] W fun e w' => e = .returned (.int .i64 97) ∧ Below W.heap.size W w') := fun W => (shrunk_any sp_spruce 100 1200 W).mono fun e w' ⟨he, hb⟩ => ⟨by rw [he, aw_s1], hb⟩
  have S2 : Hid (∀ W, Calls Tryd.prog 20 #[.agg (spCells sp_spruce).toArray, .int .i64 100, .int .i64 4000] W fun e w' => e = .returned (.int .i64 100) ∧ Below W.heap.size W w') := fun W => (shrunk_any sp_spruce 100 4000 W).mono fun e w' ⟨he, hb⟩ => ⟨by rw [he, aw_s2], hb⟩
  have S3 : Hid (∀ W, Calls Tryd.prog 20 #[.agg (spCells sp_spruce).toArray, .int .i64 100, .int .i64 (-5)] W fun e w' => e = .returned (.int .i64 94) ∧ Below W.heap.size W w') := fun W => (shrunk_any sp_spruce 100 (-5) W).mono fun e w' ⟨he, hb⟩ => ⟨by rw [he, aw_s3], hb⟩
  have SF : Hid (∀ d os, Calls Tryd.prog 22 #[.slice (some ⟨b7, o7, none⟩) 1 c5] (grow (redrawn w5 d) os) fun e w' => e = .returned (.string (str pineT)) ∧ Below (grow (redrawn w5 d) os).heap.size (grow (redrawn w5 d) os) w') := fun d os => by
    have hbl := below_regrown w5 d os
    have hv := HV5.out.below hbl
    refine (format_any [sp_pine] _ _ (HP5.out.next hbl) (by decide) hv.1 hv.2.1 hv.2.2).mono fun e w' ⟨he, hb⟩ => ⟨by rw [he, aw_format], hb⟩
  have SC : Hid (∀ d os, Calls Tryd.prog 15 #[.slice (some ⟨b1, o1, none⟩) 4 c] (grow (redrawn w5 d) os) fun e w' => e = .returned (.int .i64 0) ∧ Below (grow (redrawn w5 d) os).heap.size (grow (redrawn w5 d) os) w') := fun d os =>
    (check_any stdSp _ _ (HR5.out.next (below_regrown w5 d os)) (by decide)).mono fun e w' ⟨he, hb⟩ => ⟨by rw [he, aw_check], hb⟩
  have hls : stdSp.length = 4 := rfl
  have hpe : ((str pineT).toList == [115, 112, 101, 99, 105, 101, 115, 32, 112, 105, 110, 101, 32, 103, 114, 101, 101, 110, 32, 57, 48, 48, 48, 32, 102, 97, 115, 116, 32, 53, 48, 48, 32, 115, 108, 111, 119, 32, 56, 48, 32, 115, 97, 102, 101, 32, 54, 48, 48, 32, 103, 114, 97, 100, 105, 101, 110, 116, 32, 50, 53, 48, 48, 32, 99, 114, 97, 99, 107, 32, 50, 48, 48, 48, 48, 32, 116, 101, 109, 112, 32, 56, 48, 48, 32, 100, 101, 112, 114, 101, 115, 115, 32, 50, 53, 48, 32, 100, 101, 110, 115, 105, 116, 121, 32, 52, 56, 48, 32, 115, 116, 105, 102, 102, 32, 49, 49, 48, 48, 48, 32, 107, 110, 111, 116, 115, 32, 52, 48, 48, 32, 115, 104, 114, 105, 110, 107, 32, 54, 48, 59, 10]) = true := by rw [toList_bts, bts_str]; kernel_rfl
  clear hr1 hr7
  refine wp_region_quiet_below (by kernel_rfl) (by kernel_rfl) ?_
  repeat (first
    | ((with_reducible refine quiet_load N 0 (spCells sp_spruce) ?hw ?hx HLN.out hN5 Tryd.underlying26 ?hd ?hi ?_); (case hi => exact sp_info); (case hw => kernel_rfl); (case hx => rfl); (case hd => rfl))
    | ((with_reducible refine quiet_load b7 (o7 + 0 * 13) (spCells sp_pine) ?hw ?hx HL7.out hb7 Tryd.underlying26 ?hd ?hi ?_); (case hi => exact sp_info); (case hw => kernel_rfl); (case hx => rfl); (case hd => rfl))
    | ((with_reducible refine quiet_load b1 (o1 + 0 * 13) (spCells sp_pine) ?hw ?hx HL1.out hb1 Tryd.underlying26 ?hd ?hi ?_); (case hi => exact sp_info); (case hw => kernel_rfl); (case hx => rfl); (case hd => rfl))
    | (open Go.BigFrame in go_big_quiet_step ((first | (with_reducible exact Calls.regrown_of (S1.out _)) | (with_reducible exact Calls.regrown_of (S2.out _)) | (with_reducible exact Calls.regrown_of (S3.out _)) | (with_reducible exact Calls.regrown_of (SF.out _ _)) | (with_reducible exact Calls.regrown_of (SC.out _ _)))))
    | (quiet_step ((first | (with_reducible exact Calls.regrown_of (S1.out _)) | (with_reducible exact Calls.regrown_of (S2.out _)) | (with_reducible exact Calls.regrown_of (S3.out _)) | (with_reducible exact Calls.regrown_of (SF.out _ _)) | (with_reducible exact Calls.regrown_of (SC.out _ _))))))
  refine wpQuiet_nil ?_
  rintro w6 ⟨p6, hw6⟩
  have hb6 : Below w5.heap.size w5 w6 := by rw [hw6]; exact below_regrown _ _ _
  have HB6 := Lib.hid (HB5.out.trans (hb6.mono HB5.out.size))
  clear hw6 hb6 hcn heq hgd hpe
  go_wp2_with fail
  go_ret
  exact ⟨rfl, HB6.out⟩

end Go.Proofs.YtadflenmdfcflaaDoor
