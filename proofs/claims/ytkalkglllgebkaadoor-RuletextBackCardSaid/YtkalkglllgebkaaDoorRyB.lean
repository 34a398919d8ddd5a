/-
  The contract of ruletext.text; the table of operators.
-/
import Derived.Test.YtkalkglllgebkaaDoorRyA
import Derived.Test.YtkalkglllgebkaaDoorRxP
import Derived.Test.YtkalkglllgebkaaDoorSbK
import Derived.Test.YtkalkglllgebkaaDoorCat
import Derived.Test.YtkalkglllgebkaaDoorQuiet
namespace Saw
def opText (op : Nat) : List UInt8 := if op ≤ 2 then [] else if op = 9 then notW else signP op
def opFirst (op : Nat) : Int := if op ≤ 2 then 0 else if op = 9 then 3 else firstP op
def opSecond (op : Nat) : Int := if op ≤ 2 then 0 else if op = 9 then 0 else secondP op
end Saw
namespace Go.Proofs.YtkalkglllgebkaaDoor
open Go.RowKit Saw Go.Sort

def opRow (op : Nat) : List Value := if op = 0 then [.string (str []), .int .i64 0, .int .i64 0, .int .i64 0] else [.string (str (opText op)), .int .i64 (ownP op), .int .i64 (opFirst op), .int .i64 (opSecond op)]
def opCells : List Value := (List.range 12).flatMap opRow
theorem op_at : ∀ o, 1 ≤ o → o ≤ 11 → opCells[o * 4]? = some (.string (str (opText o))) ∧ opCells[o * 4 + 1]? = some (.int .i64 (ownP o)) ∧ opCells[o * 4 + 2]? = some (.int .i64 (opFirst o)) ∧ opCells[o * 4 + 3]? = some (.int .i64 (opSecond o)) := by
  intro o h1 h2
  obtain rfl | rfl | rfl | rfl | rfl | rfl | rfl | rfl | rfl | rfl | rfl : o = 1 ∨ o = 2 ∨ o = 3 ∨ o = 4 ∨ o = 5 ∨ o = 6 ∨ o = 7 ∨ o = 8 ∨ o = 9 ∨ o = 10 ∨ o = 11 := by omega
  all_goals exact ⟨rfl, rfl, rfl, rfl⟩
/-- What the functions want of the package's variables. -/
def VarsX (w : World) : Prop := w.rangeAt 0 0 opCells ∧ Pow w ∧ 1 < w.heap.size ∧ 0 < w.heap.size
theorem VarsX.below {w w' : World} {B : Nat} (h : VarsX w) (hb : Below B w w') (h1 : 1 < B) (h2 : 0 < B) : VarsX w' :=
  ⟨rangeAt_below hb h2 h.1, h.2.1.below hb h1, Nat.lt_of_lt_of_le h.2.2.1 hb.size, Nat.lt_of_lt_of_le h.2.2.2 hb.size⟩
theorem VarsX.next {w w' : World} (h : VarsX w) (hb : Below w.heap.size w w') : VarsX w' := h.below hb h.2.2.1 h.2.2.2
theorem VarsX.op {w : World} (h : VarsX w) {o : Nat} (h1 : 1 ≤ o) (h2 : o ≤ 11) : w.cell? ⟨0, o * 4, none⟩ = some (.string (str (opText o))) ∧ w.cell? ⟨0, o * 4 + 1, none⟩ = some (.int .i64 (ownP o)) ∧ w.cell? ⟨0, o * 4 + 2, none⟩ = some (.int .i64 (opFirst o)) ∧ w.cell? ⟨0, o * 4 + 3, none⟩ = some (.int .i64 (opSecond o)) := by
  obtain ⟨a, b, c, d⟩ := op_at o h1 h2
  have e : ∀ j u, opCells[j]? = some u → w.cell? ⟨0, j, none⟩ = some u := fun j u hj => by have := h.1 j u hj; rwa [Nat.zero_add] at this
  exact ⟨e _ _ a, e _ _ b, e _ _ c, e _ _ d⟩

theorem str_fin {s : ByteArray} {l : List UInt8} (h : bts s = l) : Ending.returned (.string s) = .returned (.string (str l)) := by rw [← h, str_bts]
def StrB (t : List UInt8) (w : World) (e : Ending) (w' : World) : Prop := e = .returned (.string (str t)) ∧ Below w.heap.size w w'

theorem regrown_rd {W : World} {v : Value} {f : Fo} (h : RdFo W (Iv 0 W.heap.size) v f) (d : Nat) (os : Array Obj) : RdFo (grow (redrawn W d) os) (Iv 0 (grow (redrawn W d) os).heap.size) v f := h.next (below_regrown W d os)
theorem regrown_vars {W : World} (h : VarsX W) (d : Nat) (os : Array Obj) : VarsX (grow (redrawn W d) os) := h.next (below_regrown W d os)
theorem well_kid {x a : Ex} (h : wellP x = true) (ha : a ∈ x.kids.toList) : wellP a = true := by
  obtain ⟨h1, h2⟩ := well_split h
  rw [formedE, Bool.and_eq_true] at h1
  have h3 := kids_depth ha
  rw [wellP, formed_mem h1.2 a ha, Bool.true_and, decide_eq_true_iff]
  omega
/-- What text says of one expression, in every world in which it lies. -/
def TextAt (x : Ex) : Prop := ∀ (least : Int) (A : Option Addr) (c : Nat) (w : World), VarsX w → RdFo w (Iv 0 w.heap.size) (.slice A x.kids.toList.length c) x.kids →
    Calls Tryd.prog 32 #[.agg #[.int .i64 x.op, .int .i64 x.n, .string (str x.name), .slice A x.kids.toList.length c], .int .i64 least] w (StrB (within (txE x) least) w)
def opArr (op : Nat) : Array Value := #[.string (str (opText op)), .int .i64 (ownP op), .int .i64 (opFirst op), .int .i64 (opSecond op)]

set_option maxRecDepth 100000 in
set_option maxHeartbeats 2000000 in
theorem text_two (o : Nat) (a b : Ex) (ho : (o : Int) = 3 ∨ (o : Int) = 4 ∨ (o : Int) = 5 ∨ (o : Int) = 6 ∨ (o : Int) = 7 ∨ (o : Int) = 8 ∨ (o : Int) = 10 ∨ (o : Int) = 11) (hwf : wellP (two o a b) = true) (iha : TextAt a) (ihb : TextAt b) : TextAt (two o a b) := by
  intro least A c w hv hrd
  have hlen := tx_len8 hwf
  have hla := tx_len8 (well_kid hwf (show a ∈ (two o a b).kids.toList by simp [two, Fo.toList]))
  have hlb := tx_len8 (well_kid hwf (show b ∈ (two o a b).kids.toList by simp [two, Fo.toList]))
  have htx := txE_two ho a b
  obtain ⟨w0, w1, w2, w3⟩ := hv.op (o := o) (by omega) (by omega)
  have hgl := hv.2.2.2
  have hopT : opText o = signP o := by rw [opText, if_neg (by omega), if_neg (by omega)]
  have hopF : opFirst o = firstP o := by rw [opFirst, if_neg (by omega), if_neg (by omega)]
  have hopS : opSecond o = secondP o := by rw [opSecond, if_neg (by omega), if_neg (by omega)]
  have hkl : (two o a b).kids.toList = [a, b] := rfl
  obtain ⟨b0, off, A1, c1, rfl, hS1, hra, hga⟩ := hrd.at_ (i := 0) (x := a) rfl
  obtain ⟨b0', off', A2, c2, hbe, _, hrb, hgb⟩ := hrd.at_ (i := 1) (x := b) rfl
  injection hbe with hbe
  injection hbe with hb1 hb2 _
  subst hb1 hb2
  have hoi0 : (0 : Int) ≤ (o : Int) := by omega
  have hoi1 : (o : Int) < 12 := by omega
  have e1 : ((o : Int) == 1) = false := by rw [beq_eq_false_iff_ne]; omega
  have e2 : ((o : Int) == 2) = false := by rw [beq_eq_false_iff_ne]; omega
  have e9 : ((o : Int) == 9) = false := by rw [beq_eq_false_iff_ne]; omega
  have hcap : 2 ≤ c := by obtain ⟨_, _, he, hc, _⟩ := hrd.form; injection he with _ _ he; rw [hkl] at hc; simp only [List.length_cons, List.length_nil] at hc; omega
  have HLEN := Lib.hid (And.intro hlen (And.intro hla hlb))
  have HTX := Lib.hid htx
  have HOP := Lib.hid (And.intro hopT (And.intro hopF hopS))
  have HV := Lib.hid hv
  have HIA := Lib.hid iha
  have HIB := Lib.hid ihb
  have HRA := Lib.hid hra
  have HRB := Lib.hid hrb
  have HGA := Lib.hid hga
  have HGB := Lib.hid hgb
  have hbsz : b0 < w.heap.size := hS1.2
  show Calls Tryd.prog 32 #[.agg #[.int .i64 o, .int .i64 0, .string (str []), .slice (some ⟨b0, off, none⟩) 2 c], .int .i64 least] w (StrB (within (txE (two o a b)) least) w)
  clear hlen hla hlb htx hopT hopF hopS hv iha ihb hra hrb hga hgb hrd hwf hkl hS1 ho
  go_enter Tryd.func32, Tryd.ntmps32
  go_upto_region 3 with fail
  obtain ⟨N, hN⟩ : ∃ N, w.heap.size = N := ⟨_, rfl⟩
  have hB := bel_alloc (ob := .cells (opArr o) 95) (bel_alloc (ob := .cells #[.int .i64 o, .int .i64 0, .string (str []), .slice (some ⟨b0, off, none⟩) 2 c] 24) (Below.refl w.heap.size w))
  have hR1 := hpA (heap_alloc_last w (.cells #[.int .i64 o, .int .i64 0, .string (str []), .slice (some ⟨b0, off, none⟩) 2 c] 24)) (.cells (opArr o) 95)
  have hR2 := heap_alloc_last (w.alloc (.cells #[.int .i64 o, .int .i64 0, .string (str []), .slice (some ⟨b0, off, none⟩) 2 c] 24)) (.cells (opArr o) 95)
  rw [World.size_alloc] at hR2
  obtain ⟨W1, hW1⟩ : ∃ W, (w.alloc (.cells #[.int .i64 o, .int .i64 0, .string (str []), .slice (some ⟨b0, off, none⟩) 2 c] 24)).alloc (.cells #[.string (str (opText o)), .int .i64 (ownP o), .int .i64 (opFirst o), .int .i64 (opSecond o)] 95) = W := ⟨_, rfl⟩
  rw [show (w.alloc (.cells #[.int .i64 o, .int .i64 0, .string (str []), .slice (some ⟨b0, off, none⟩) 2 c] 24)).alloc (.cells (opArr o) 95) = W1 from hW1] at hB hR1 hR2
  rw [hW1]
  rw [hN] at hR1 hR2 hgl hbsz ⊢
  have HB := Lib.hid hB
  have hV1 := HV.out.next hB
  have hA1 := HRA.out.next hB
  have hB1 := HRB.out.next hB
  have hGA := rangeAt_below hB (by rw [hN]; exact hbsz) HGA.out
  have hGB := rangeAt_below hB (by rw [hN]; exact hbsz) HGB.out
  have hb1 : b0 < W1.heap.size := Nat.lt_of_lt_of_le (by rw [hN]; exact hbsz) hB.size
  rw [show off + 0 * 4 = off by omega] at hGA
  rw [show off + 1 * 4 = off + 4 by omega] at hGB
  have HGA1 := Lib.hid hGA
  have HGB1 := Lib.hid hGB
  have HR2 := Lib.hid hR2
  have z0 : W1.cell? ⟨N, 0, none⟩ = some (.int .i64 o) := cell_of_box hR1 rfl
  have y0 : ∀ d os, (grow (redrawn W1 d) os).cell? ⟨N + 1, 0, none⟩ = some (.string (str (opText o))) := fun d os => cell_regrown (cell_of_box hR2 rfl) d os
  have y1 : ∀ d os, (grow (redrawn W1 d) os).cell? ⟨N + 1, 2, none⟩ = some (.int .i64 (opFirst o)) := fun d os => cell_regrown (cell_of_box hR2 rfl) d os
  have y2 : ∀ d os, (grow (redrawn W1 d) os).cell? ⟨N + 1, 3, none⟩ = some (.int .i64 (opSecond o)) := fun d os => cell_regrown (cell_of_box hR2 rfl) d os
  have y3 : ∀ d os, (grow (redrawn W1 d) os).cell? ⟨N, 3, none⟩ = some (.slice (some ⟨b0, off, none⟩) 2 c) := fun d os => cell_regrown (cell_of_box hR1 rfl) d os
  obtain ⟨s1, hs1⟩ : ∃ s1, str (within (txE a) (opFirst o)) = s1 := ⟨_, rfl⟩
  obtain ⟨s2, hs2⟩ : ∃ s2, str (within (txE b) (opSecond o)) = s2 := ⟨_, rfl⟩
  obtain ⟨tt, htt⟩ : ∃ tt, str (opText o) = tt := ⟨_, rfl⟩
  have D1 : Hid (∀ d os, Calls Tryd.prog 32 #[.agg (exCells a (.slice A1 a.kids.toList.length c1)).toArray, .int .i64 (opFirst o)] (grow (redrawn W1 d) os) fun e w' => e = .returned (.string s1) ∧ Below (grow (redrawn W1 d) os).heap.size (grow (redrawn W1 d) os) w') := fun d os => by rw [← hs1]; exact HIA.out _ A1 c1 _ (regrown_vars hV1 d os) (regrown_rd hA1 d os)
  have D2 : Hid (∀ d os, Calls Tryd.prog 32 #[.agg (exCells b (.slice A2 b.kids.toList.length c2)).toArray, .int .i64 (opSecond o)] (grow (redrawn W1 d) os) fun e w' => e = .returned (.string s2) ∧ Below (grow (redrawn W1 d) os).heap.size (grow (redrawn W1 d) os) w') := fun d os => by rw [← hs2]; exact HIB.out _ A2 c2 _ (regrown_vars hV1 d os) (regrown_rd hB1 d os)
  have q1 : s1.size ≤ 3833 := by rw [← hs1, size_str]; have := within_len a (opFirst o); have := HLEN.out; omega
  have q2 : s2.size ≤ 3833 := by rw [← hs2, size_str]; have := within_len b (opSecond o); have := HLEN.out; omega
  have q3 : tt.size ≤ 3 := by rw [← htt, size_str, HOP.out.1]; exact sign_len o
  have HSS := Lib.hid (And.intro hs1 (And.intro hs2 htt))
  rw [htt] at y0 ⊢
  clear hs1 hs2 htt hB hR1 hR2 hW1 hV1 hA1 hB1 hGA hGB w0 w1 w2 w3 hgl
  have g1 : ¬ 9223372036854775807 < s1.size + 1 := by omega
  have g2 : ¬ 9223372036854775807 < s1.size + 1 + tt.size := by omega
  have g3 : ¬ 9223372036854775807 < s1.size + 1 + tt.size + 1 := by omega
  have g4 : ¬ 9223372036854775807 < s1.size + 1 + tt.size + 1 + s2.size := by omega
  go_wp2_with fail
  refine wp_region_quiet_below (by kernel_rfl) (by kernel_rfl) ?_
  repeat (first
    | ((with_reducible refine quiet_load b0 off (exCells a (.slice A1 a.kids.toList.length c1)) ?hw ?hx HGA1.out hb1 Tryd.underlying24 ?hd ?hi ?_); (case hi => exact ex_info); (case hw => kernel_rfl); (case hx => rfl); (case hd => rfl))
    | ((with_reducible refine quiet_load b0 (off + 4) (exCells b (.slice A2 b.kids.toList.length c2)) ?hw ?hx HGB1.out hb1 Tryd.underlying24 ?hd ?hi ?_); (case hi => exact ex_info); (case hw => kernel_rfl); (case hx => rfl); (case hd => rfl))
    | (open Go.BigFrame in go_big_quiet_step ((first | (with_reducible exact Calls.regrown_of (D1.out _ _)) | (with_reducible exact Calls.regrown_of (D2.out _ _)))))
    | (quiet_step ((first | (with_reducible exact Calls.regrown_of (D1.out _ _)) | (with_reducible exact Calls.regrown_of (D2.out _ _))))))
  refine wpQuiet_nil ?_
  rintro w6 ⟨z6, hw6⟩
  have hb6 : Below W1.heap.size W1 w6 := by rw [hw6]; exact below_regrown _ _ _
  have HB6 := Lib.hid (HB.out.trans (hb6.mono HB.out.size))
  have p0 : w6.cell? ⟨N + 1, 1, none⟩ = some (.int .i64 (ownP o)) := (hb6.cell (p := ⟨N + 1, 1, none⟩) (Array.getElem?_eq_some_iff.1 HR2.out).1).trans (cell_of_box HR2.out rfl)
  clear hw6 hb6 y0 y1 y2 y3 z0
  have hres : within (txE (two o a b)) least = if ownP o < least then [40] ++ (bts s1 ++ [32] ++ bts tt ++ [32] ++ bts s2) ++ [41] else bts s1 ++ [32] ++ bts tt ++ [32] ++ bts s2 := by
    rw [within, HTX.out, ← HSS.out.1, ← HSS.out.2.1, ← HSS.out.2.2, bts_str, bts_str, bts_str, HOP.out.1, HOP.out.2.1, HOP.out.2.2]
  have HRES := Lib.hid hres
  clear hres
  by_cases hlow : ownP o < least
  · have HLOW := Lib.hid hlow
    have g5 : ¬ 9223372036854775807 < 1 + (s1.size + 1 + tt.size + 1 + s2.size) := by omega
    have g6 : ¬ 9223372036854775807 < 1 + (s1.size + 1 + tt.size + 1 + s2.size) + 1 := by omega
    go_wp2_with fail
    go_ret
    refine ⟨str_fin ?_, HB6.out⟩
    rw [HRES.out, if_pos HLOW.out]
    simp only [bts_append]
    rfl
  · have HLOW := Lib.hid hlow
    go_wp2_with fail
    go_ret
    refine ⟨str_fin ?_, HB6.out⟩
    rw [HRES.out, if_neg (by have := HLOW.out; omega)]
    simp only [bts_append]
    rfl

set_option maxRecDepth 100000 in
set_option maxHeartbeats 2000000 in
theorem text_not (a : Ex) (hwf : wellP (one 9 a) = true) (iha : TextAt a) : TextAt (one 9 a) := by
  intro least A c w hv hrd
  have hlen := tx_len8 hwf
  have hla := tx_len8 (well_kid hwf (show a ∈ (one 9 a).kids.toList by simp [one, Fo.toList]))
  have htx := txE_not a
  obtain ⟨w0, w1, w2, w3⟩ := hv.op (o := 9) (by omega) (by omega)
  have hgl := hv.2.2.2
  obtain ⟨b0, off, A1, c1, rfl, hS1, hra, hga⟩ := hrd.at_ (i := 0) (x := a) rfl
  have HLEN := Lib.hid (And.intro hlen hla)
  have HTX := Lib.hid htx
  have HV := Lib.hid hv
  have HIA := Lib.hid iha
  have HRA := Lib.hid hra
  have HGA := Lib.hid hga
  have hbsz : b0 < w.heap.size := hS1.2
  show Calls Tryd.prog 32 #[.agg #[.int .i64 9, .int .i64 0, .string (str []), .slice (some ⟨b0, off, none⟩) 1 c], .int .i64 least] w (StrB (within (txE (one 9 a)) least) w)
  have q0 : w.cell? ⟨0, 36, none⟩ = some (.string (str notW)) := w0
  have q1 : w.cell? ⟨0, 37, none⟩ = some (.int .i64 3) := w1
  have q2 : w.cell? ⟨0, 38, none⟩ = some (.int .i64 3) := w2
  have q3 : w.cell? ⟨0, 39, none⟩ = some (.int .i64 0) := w3
  have hcap : 1 ≤ c := by obtain ⟨_, _, he, hc, _⟩ := hrd.form; injection he with _ _ he; have h1 : (one 9 a).kids.toList.length = 1 := rfl; omega
  clear hlen hla htx hv iha hra hga hrd hwf hS1 w0 w1 w2 w3
  go_enter Tryd.func32, Tryd.ntmps32
  go_upto_region 3 with fail
  obtain ⟨N, hN⟩ : ∃ N, w.heap.size = N := ⟨_, rfl⟩
  have hB := bel_alloc (ob := .cells #[.string (str notW), .int .i64 3, .int .i64 3, .int .i64 0] 95) (bel_alloc (ob := .cells #[.int .i64 9, .int .i64 0, .string (str []), .slice (some ⟨b0, off, none⟩) 1 c] 24) (Below.refl w.heap.size w))
  have hR1 := hpA (heap_alloc_last w (.cells #[.int .i64 9, .int .i64 0, .string (str []), .slice (some ⟨b0, off, none⟩) 1 c] 24)) (.cells #[.string (str notW), .int .i64 3, .int .i64 3, .int .i64 0] 95)
  have hR2 := heap_alloc_last (w.alloc (.cells #[.int .i64 9, .int .i64 0, .string (str []), .slice (some ⟨b0, off, none⟩) 1 c] 24)) (.cells #[.string (str notW), .int .i64 3, .int .i64 3, .int .i64 0] 95)
  rw [World.size_alloc] at hR2
  obtain ⟨W1, hW1⟩ : ∃ W, (w.alloc (.cells #[.int .i64 9, .int .i64 0, .string (str []), .slice (some ⟨b0, off, none⟩) 1 c] 24)).alloc (.cells #[.string (str notW), .int .i64 3, .int .i64 3, .int .i64 0] 95) = W := ⟨_, rfl⟩
  rw [hW1] at hB hR1 hR2 ⊢
  rw [hN] at hR1 hR2 hgl hbsz ⊢
  have HB := Lib.hid hB
  have hV1 := HV.out.next hB
  have hA1 := HRA.out.next hB
  have hGA := rangeAt_below hB (by rw [hN]; exact hbsz) HGA.out
  have hb1 : b0 < W1.heap.size := Nat.lt_of_lt_of_le (by rw [hN]; exact hbsz) hB.size
  rw [show off + 0 * 4 = off by omega] at hGA
  have HGA1 := Lib.hid hGA
  have HR2 := Lib.hid hR2
  have z0 : W1.cell? ⟨N, 0, none⟩ = some (.int .i64 9) := cell_of_box hR1 rfl
  have y0 : ∀ d os, (grow (redrawn W1 d) os).cell? ⟨N + 1, 0, none⟩ = some (.string (str notW)) := fun d os => cell_regrown (cell_of_box hR2 rfl) d os
  have y1 : ∀ d os, (grow (redrawn W1 d) os).cell? ⟨N + 1, 2, none⟩ = some (.int .i64 3) := fun d os => cell_regrown (cell_of_box hR2 rfl) d os
  have y3 : ∀ d os, (grow (redrawn W1 d) os).cell? ⟨N, 3, none⟩ = some (.slice (some ⟨b0, off, none⟩) 1 c) := fun d os => cell_regrown (cell_of_box hR1 rfl) d os
  obtain ⟨s1, hs1⟩ : ∃ s1, str (within (txE a) 3) = s1 := ⟨_, rfl⟩
  obtain ⟨tt, htt⟩ : ∃ tt, str notW = tt := ⟨_, rfl⟩
  have D1 : Hid (∀ d os, Calls Tryd.prog 32 #[.agg (exCells a (.slice A1 a.kids.toList.length c1)).toArray, .int .i64 3] (grow (redrawn W1 d) os) fun e w' => e = .returned (.string s1) ∧ Below (grow (redrawn W1 d) os).heap.size (grow (redrawn W1 d) os) w') := fun d os => by rw [← hs1]; exact HIA.out _ A1 c1 _ (regrown_vars hV1 d os) (regrown_rd hA1 d os)
  have q1 : s1.size ≤ 3833 := by rw [← hs1, size_str]; have := within_len a 3; have := HLEN.out; omega
  have q3 : tt.size = 3 := by rw [← htt, size_str]; rfl
  have HSS := Lib.hid (And.intro hs1 htt)
  rw [htt] at y0 ⊢
  clear hs1 htt hB hR1 hR2 hW1 hV1 hA1 hGA q0 q2 hgl
  have g1 : ¬ 9223372036854775807 < tt.size + 1 := by omega
  have g2 : ¬ 9223372036854775807 < tt.size + 1 + s1.size := by omega
  have HQ3 := Lib.hid q3
  clear q3
  go_wp2_with fail
  refine wp_region_quiet_below (by kernel_rfl) (by kernel_rfl) ?_
  repeat (first
    | ((with_reducible refine quiet_load b0 off (exCells a (.slice A1 a.kids.toList.length c1)) ?hw ?hx HGA1.out hb1 Tryd.underlying24 ?hd ?hi ?_); (case hi => exact ex_info); (case hw => kernel_rfl); (case hx => rfl); (case hd => rfl))
    | (open Go.BigFrame in go_big_quiet_step ((with_reducible exact Calls.regrown_of (D1.out _ _))))
    | (quiet_step ((with_reducible exact Calls.regrown_of (D1.out _ _)))))
  refine wpQuiet_nil ?_
  rintro w6 ⟨z6, hw6⟩
  have hb6 : Below W1.heap.size W1 w6 := by rw [hw6]; exact below_regrown _ _ _
  have HB6 := Lib.hid (HB.out.trans (hb6.mono HB.out.size))
  have p0 : w6.cell? ⟨N + 1, 1, none⟩ = some (.int .i64 3) := (hb6.cell (p := ⟨N + 1, 1, none⟩) (Array.getElem?_eq_some_iff.1 HR2.out).1).trans (cell_of_box HR2.out rfl)
  clear hw6 hb6 y0 y1 y3 z0
  have hres : within (txE (one 9 a)) least = if 3 < least then [40] ++ (bts tt ++ [32] ++ bts s1) ++ [41] else bts tt ++ [32] ++ bts s1 := by
    rw [within, HTX.out, ← HSS.out.1, ← HSS.out.2, bts_str, bts_str]
  have HRES := Lib.hid hres
  clear hres
  by_cases hlow : 3 < least
  · have HLOW := Lib.hid hlow
    have g5 : ¬ 9223372036854775807 < 1 + (tt.size + 1 + s1.size) := by have := HQ3.out; omega
    have g6 : ¬ 9223372036854775807 < 1 + (tt.size + 1 + s1.size) + 1 := by have := HQ3.out; omega
    go_wp2_with fail
    go_ret
    refine ⟨str_fin ?_, HB6.out⟩
    rw [HRES.out, if_pos HLOW.out]
    simp only [bts_append]
    rfl
  · have HLOW := Lib.hid hlow
    go_wp2_with fail
    go_ret
    refine ⟨str_fin ?_, HB6.out⟩
    rw [HRES.out, if_neg (by have := HLOW.out; omega)]
    simp only [bts_append]
    rfl

set_option maxRecDepth 100000 in
set_option maxHeartbeats 2000000 in
theorem text_num (x : Ex) (ho : x.op = 1) (h1 : -1099511627776 ≤ x.n) (h2 : x.n ≤ 1099511627776) : TextAt x := by
  intro least A c w hv hrd
  obtain ⟨op, n, nm, kids⟩ := x
  simp only at ho h1 h2 hrd ⊢
  subst ho
  have htx : txE ⟨1, n, nm, kids⟩ = (7, Go.Lib.itoa n) := txE_num rfl
  rw [htx]
  have hsz := itoa_len21 h1 h2
  obtain ⟨w0, w1, w2, w3⟩ := hv.op (o := 1) (by omega) (by omega)
  have hgl := hv.2.2.2
  have q0 : w.cell? ⟨0, 4, none⟩ = some (.string (str [])) := w0
  have q1 : w.cell? ⟨0, 5, none⟩ = some (.int .i64 7) := w1
  have q2 : w.cell? ⟨0, 6, none⟩ = some (.int .i64 0) := w2
  have q3 : w.cell? ⟨0, 7, none⟩ = some (.int .i64 0) := w3
  have HV := Lib.hid hv
  have HIT := Lib.hid (fun (W : World) (hb : Below w.heap.size w W) => itoa_any n W (by omega) (by omega) (hv.next hb).2.1)
  obtain ⟨s1, hs1⟩ : ∃ s1, str (Lib.itoa n) = s1 := ⟨_, rfl⟩
  have hq1 : s1.size ≤ 21 := by rw [← hs1, size_str]; exact hsz
  rw [hs1] at HIT
  have HS1 := Lib.hid hs1
  have hb0 := bel_alloc (ob := .cells #[.string (str []), .int .i64 7, .int .i64 0, .int .i64 0] 95) (bel_alloc (ob := .cells #[.int .i64 1, .int .i64 n, .string (str nm), .slice A kids.toList.length c] 24) (Below.refl w.heap.size w))
  have hr2 := heap_alloc_last (w.alloc (.cells #[.int .i64 1, .int .i64 n, .string (str nm), .slice A kids.toList.length c] 24)) (.cells #[.string (str []), .int .i64 7, .int .i64 0, .int .i64 0] 95)
  rw [World.size_alloc] at hr2
  have HB := Lib.hid hb0
  have HR2 := Lib.hid hr2
  clear hv hrd htx hs1 w0 w1 w2 w3 hb0 hr2 hsz
  go_enter Tryd.func32, Tryd.ntmps32
  go_wp2_with fail
  refine (HIT.out _ HB.out).mono ?_
  rintro e w3 ⟨he, hb⟩
  subst he
  have p0 : w3.cell? ⟨w.heap.size + 1, 1, none⟩ = some (.int .i64 7) := (hb.cell (p := ⟨w.heap.size + 1, 1, none⟩) (Array.getElem?_eq_some_iff.1 HR2.out).1).trans (cell_of_box HR2.out rfl)
  have HB3 := Lib.hid (bel_call HB.out hb)
  clear hb q0 q1 q2 q3
  by_cases hlow : 7 < least
  · have HLOW := Lib.hid hlow
    have g5 : ¬ 9223372036854775807 < 1 + s1.size := by omega
    have g6 : ¬ 9223372036854775807 < 1 + s1.size + 1 := by omega
    go_wp2_with fail
    go_ret
    refine ⟨str_fin ?_, HB3.out⟩
    rw [within, if_pos HLOW.out]
    simp only [bts_append, ← HS1.out, bts_str]
    rfl
  · have HLOW := Lib.hid hlow
    go_wp2_with fail
    go_ret
    refine ⟨str_fin ?_, HB3.out⟩
    rw [within, if_neg (by have := HLOW.out; omega), ← HS1.out, bts_str]

set_option maxRecDepth 100000 in
set_option maxHeartbeats 2000000 in
theorem text_name (x : Ex) (ho : x.op = 2) (hn : namedP x.name = true) : TextAt x := by
  intro least A c w hv hrd
  obtain ⟨op, n, nm, kids⟩ := x
  simp only at ho hn hrd ⊢
  subst ho
  have htx : txE ⟨2, n, nm, kids⟩ = (7, nm) := txE_name rfl
  rw [htx]
  have hsz := named_len hn
  obtain ⟨w0, w1, w2, w3⟩ := hv.op (o := 2) (by omega) (by omega)
  have hgl := hv.2.2.2
  have q0 : w.cell? ⟨0, 8, none⟩ = some (.string (str [])) := w0
  have q1 : w.cell? ⟨0, 9, none⟩ = some (.int .i64 7) := w1
  have q2 : w.cell? ⟨0, 10, none⟩ = some (.int .i64 0) := w2
  have q3 : w.cell? ⟨0, 11, none⟩ = some (.int .i64 0) := w3
  obtain ⟨s1, hs1⟩ : ∃ s1, str nm = s1 := ⟨_, rfl⟩
  have hq1 : s1.size ≤ 16 := by rw [← hs1, size_str]; exact hsz
  have HS1 := Lib.hid hs1
  rw [hs1]
  have hb0 := bel_alloc (ob := .cells #[.string (str []), .int .i64 7, .int .i64 0, .int .i64 0] 95) (bel_alloc (ob := .cells #[.int .i64 2, .int .i64 n, .string s1, .slice A kids.toList.length c] 24) (Below.refl w.heap.size w))
  have HB := Lib.hid hb0
  clear hv hrd htx hs1 w0 w1 w2 w3 hb0 hsz
  by_cases hlow : 7 < least
  · have HLOW := Lib.hid hlow
    have g5 : ¬ 9223372036854775807 < 1 + s1.size := by omega
    have g6 : ¬ 9223372036854775807 < 1 + s1.size + 1 := by omega
    go_enter Tryd.func32, Tryd.ntmps32
    go_wp2_with fail
    go_ret
    refine ⟨str_fin ?_, HB.out⟩
    rw [within, if_pos HLOW.out]
    simp only [bts_append, ← HS1.out, bts_str]
    rfl
  · have HLOW := Lib.hid hlow
    go_enter Tryd.func32, Tryd.ntmps32
    go_wp2_with fail
    go_ret
    refine ⟨str_fin ?_, HB.out⟩
    rw [within, if_neg (by have := HLOW.out; omega), ← HS1.out, bts_str]

theorem text_any : ∀ (N : Nat) (x : Ex), x.size ≤ N → wellP x = true → TextAt x := by
  intro N
  induction N with
  | zero => intro x h; simp only [Ex.size] at h; omega
  | succ N ih =>
    intro x hN hwf
    rcases formed_cases (well_split hwf).1 with ⟨a1, a2, a3, a4, a5⟩ | ⟨a1, a2, a3, a4⟩ | ⟨a, a1, a2, a3⟩ | ⟨a, b, a1, a2, a3, a4⟩
    · exact text_num x a1 a4 a5
    · exact text_name x a1 a3
    · rw [a2] at hN hwf ⊢
      have hm : a ∈ (one 9 a).kids.toList := by simp [one, Fo.toList]
      exact text_not a hwf (ih a (by have := kids_size hm; omega) (well_kid hwf hm))
    · obtain ⟨o, ho⟩ : ∃ o : Nat, x.op = o := ⟨x.op.toNat, by omega⟩
      rw [ho] at a1 a2
      rw [a2] at hN hwf ⊢
      have hm : a ∈ (two o a b).kids.toList := by simp [two, Fo.toList]
      have hm' : b ∈ (two o a b).kids.toList := by simp [two, Fo.toList]
      exact text_two o a b a1 hwf (ih a (by have := kids_size hm; omega) (well_kid hwf hm)) (ih b (by have := kids_size hm'; omega) (well_kid hwf hm'))

end Go.Proofs.YtkalkglllgebkaaDoor
