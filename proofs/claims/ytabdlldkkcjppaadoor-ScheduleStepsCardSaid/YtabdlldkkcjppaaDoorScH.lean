/-
  The contract of schedule.stageText.
  The contract of schedule.Format.
-/
import Derived.Test.YtabdlldkkcjppaaDoorScE
import Derived.Test.YtabdlldkkcjppaaDoorScT
import Derived.Test.YtabdlldkkcjppaaDoorSbK
import Derived.Test.YtabdlldkkcjppaaDoorCat
import Derived.Test.YtabdlldkkcjppaaDoorQuiet
import Derived.Lib.ItoaLen
import Derived.BigQuiet
namespace Go.Proofs.YtabdlldkkcjppaaDoor
open Go.RowKit Saw Go.Sort

def StrPost (l : List UInt8) (w : World) (e : Ending) (w' : World) : Prop := e = .returned (.string (str l)) ∧ Below w.heap.size w w'
theorem sz_itoa (n : Int) (h0 : -9223372036854775808 ≤ n) (h1 : n ≤ 9223372036854775807) : (str (Lib.itoa n)).size ≤ 21 := by rw [size_str]; exact Lib.itoa_length_le n h0 h1
def scWordCells : List Value := [.string (str belowW), .string (str forW), .string (str atW)]
/-- What the functions want of the package's variables. -/
def VarsS (w : World) : Prop := w.rangeAt 0 0 scWordCells ∧ Pow w ∧ 1 < w.heap.size ∧ 0 < w.heap.size
theorem VarsS.below {w w' : World} {B : Nat} (h : VarsS w) (hb : Below B w w') (h1 : 1 < B) (h2 : 0 < B) : VarsS w' :=
  ⟨rangeAt_below hb h2 h.1, h.2.1.below hb h1, Nat.lt_of_lt_of_le h.2.2.1 hb.size, Nat.lt_of_lt_of_le h.2.2.2 hb.size⟩
theorem VarsS.next {w w' : World} (h : VarsS w) (hb : Below w.heap.size w w') : VarsS w' := h.below hb h.2.2.1 h.2.2.2
def stgParts (x : Stg) (k : Nat) : List UInt8 := ([(belowW, x.below), (forW, x.ticks)].take k).flatMap fun p => partText p.1 p.2
theorem stgParts0 (x : Stg) : stgParts x 0 = [] := rfl
theorem stgParts1 (x : Stg) : stgParts x 1 = partText belowW x.below := by simp [stgParts]
theorem stgParts2 (x : Stg) : stgParts x 2 = partText belowW x.below ++ partText forW x.ticks := by simp [stgParts]

set_option maxRecDepth 100000 in
set_option maxHeartbeats 1000000 in
theorem stageText_any (x : Stg) (w : World) (hv : VarsS w) (hs : soundP x = true) :
    Calls Tryd.prog 39 #[.agg #[.int .i64 x.below, .int .i64 x.ticks, .int .i64 x.temp, .int .i64 x.dep]] w (StrPost (stgText x) w) := by
  obtain ⟨a1, a2, b1, b2, _, t1, t2, d1, d2⟩ := soundP_iff.1 hs
  have HV := Lib.hid hv
  have HS := Lib.hid hs
  clear hv hs
  go_enter Tryd.func39, Tryd.ntmps39
  go_wp2_with fail
  go_loopw [11, 3] (fun i s wr => ∃ (k : Nat) (tt : ByteArray), k ≤ 2 ∧ i = .int .i64 k ∧ s = .string tt ∧ bts tt = stgParts x k ∧ Below w.heap.size w wr ∧ wr.heap[w.heap.size]? = some (.cells (stgCells x).toArray 52 (0, 0))) (fun i _ _ => 2 - (intOf i).toNat)
  case atStart => exact ⟨0, _, by omega, rfl, rfl, rfl, (Below.refl _ _).alloc (Nat.le_refl _) _, heap_alloc_last w _⟩
  case round =>
    obtain ⟨k, tt, hk, rfl, rfl, hbt, hb, hnb⟩ := hrel
    have HB := Lib.hid hb
    have HBT := Lib.hid hbt
    have HNB := Lib.hid hnb
    have hsz := hb.size
    have HVR := Lib.hid (HV.out.next hb)
    have htz : tt.size ≤ 24 := by
      rw [size_bts, hbt]
      have p1 := partText_len (w := belowW) (by decide) a1 a2
      have p2 := partText_len (w := forW) (by decide) b1 (show x.ticks ≤ 20000 by omega)
      rcases (show k = 0 ∨ k = 1 ∨ k = 2 by omega) with rfl | rfl | rfl
      · rw [stgParts0]; exact Nat.zero_le _
      · rw [stgParts1]; omega
      · rw [stgParts2, List.length_append]; omega
    clear hb hbt hnb
    rcases (show k = 0 ∨ k = 1 ∨ k = 2 by omega) with rfl | rfl | rfl
    · rw [show ((0 : Nat) : Int) = 0 from rfl]
      have hix : ∀ W, (Instr.index 49 (.agg #[.int .i64 x.below, .int .i64 x.ticks]) (.int .i64 0)).run Tryd.prog W = .ok (.int .i64 x.below) W := fun W => by kernel_rfl
      by_cases h0 : x.below = 0
      · have h0b : (x.below != 0) = false := by rw [bne_eq_false_iff_eq]; exact h0
        have HH0 := Lib.hid h0
        clear h0
        go_wp2_with fail
        exact ⟨⟨1, tt, by omega, by go_num, rfl, by rw [HBT.out, stgParts0, stgParts1, partText, if_neg (by rw [HH0.out]; decide)], HB.out, HNB.out⟩, by simp [intOf]⟩
      · have h0b : (x.below != 0) = true := by rw [bne_iff_ne]; exact h0
        have HH0 := Lib.hid h0
        clear h0
        obtain ⟨d, hd⟩ : ∃ d, str (Lib.itoa x.below) = d := ⟨_, rfl⟩
        have s1 : d.size ≤ 21 := by rw [← hd]; exact sz_itoa _ (by omega) (by omega)
        have D1 : Hid (∀ d' os, Calls Tryd.prog 38 #[.int .i64 x.below] (grow (redrawn wr d') os) fun e w' => e = .returned (.string d) ∧ Below (grow (redrawn wr d') os).heap.size (grow (redrawn wr d') os) w') := fun d' os => by
          rw [← hd]; exact itoa_any _ _ (by omega) (by omega) (HVR.out.next (below_regrown wr d' os)).2.1
        have y0 : ∀ d os, (grow (redrawn wr d) os).cell? ⟨0, 0, none⟩ = some (.string (str belowW)) := fun d os => cell_regrown (HVR.out.1 0 _ rfl) d os
        have sw : (str belowW).size = 5 := by rw [size_str]; rfl
        have HD := Lib.hid hd
        have g1 : ¬ 9223372036854775807 < 1 + (str belowW).size := by omega
        have g2 : ¬ 9223372036854775807 < 1 + (str belowW).size + 1 := by omega
        have g3 : ¬ 9223372036854775807 < 1 + (str belowW).size + 1 + d.size := by omega
        have g4 : ¬ 9223372036854775807 < tt.size + (1 + (str belowW).size + 1 + d.size) := by omega
        clear hd sw
        go_wp2_with fail
        refine wp_region_quiet_below (by kernel_rfl) (by kernel_rfl) ?_
        repeat (first
          | (open Go.BigFrame in go_big_quiet_step ((first | (with_reducible exact Calls.regrown_of (D1.out _ _)))))
          | (quiet_step ((first | (with_reducible exact Calls.regrown_of (D1.out _ _))))))
        refine wpQuiet_nil ?_
        rintro w6 ⟨z6, hw6⟩
        have hb6 : Below wr.heap.size wr w6 := by rw [hw6]; exact below_regrown _ _ _
        have HB6 := Lib.hid (HB.out.trans (hb6.mono hsz))
        have HN6 := Lib.hid ((hb6.block _ (Array.getElem?_eq_some_iff.1 HNB.out).1).trans HNB.out)
        clear hw6 hb6 y0
        go_wp2_with fail
        refine ⟨⟨1, _, by omega, by go_num, rfl, ?_, HB6.out, HN6.out⟩, by simp [intOf]⟩
        rw [← HD.out]
        simp only [bts_append, bts_str, HBT.out, stgParts0, stgParts1, List.nil_append]
        simp [partText, HH0.out, bts]
    · rw [show ((1 : Nat) : Int) = 1 from rfl]
      have hix : ∀ W, (Instr.index 49 (.agg #[.int .i64 x.below, .int .i64 x.ticks]) (.int .i64 1)).run Tryd.prog W = .ok (.int .i64 x.ticks) W := fun W => by kernel_rfl
      by_cases h0 : x.ticks = 0
      · have h0b : (x.ticks != 0) = false := by rw [bne_eq_false_iff_eq]; exact h0
        have HH0 := Lib.hid h0
        clear h0
        go_wp2_with fail
        exact ⟨⟨2, tt, by omega, by go_num, rfl, by rw [HBT.out, stgParts1, stgParts2, show partText forW x.ticks = [] by rw [partText, if_neg (by rw [HH0.out]; decide)], List.append_nil], HB.out, HNB.out⟩, by simp [intOf]⟩
      · have h0b : (x.ticks != 0) = true := by rw [bne_iff_ne]; exact h0
        have HH0 := Lib.hid h0
        clear h0
        obtain ⟨d, hd⟩ : ∃ d, str (Lib.itoa x.ticks) = d := ⟨_, rfl⟩
        have s1 : d.size ≤ 21 := by rw [← hd]; exact sz_itoa _ (by omega) (by omega)
        have D1 : Hid (∀ d' os, Calls Tryd.prog 38 #[.int .i64 x.ticks] (grow (redrawn wr d') os) fun e w' => e = .returned (.string d) ∧ Below (grow (redrawn wr d') os).heap.size (grow (redrawn wr d') os) w') := fun d' os => by
          rw [← hd]; exact itoa_any _ _ (by omega) (by omega) (HVR.out.next (below_regrown wr d' os)).2.1
        have y0 : ∀ d os, (grow (redrawn wr d) os).cell? ⟨0, 1, none⟩ = some (.string (str forW)) := fun d os => cell_regrown (HVR.out.1 1 _ rfl) d os
        have sw : (str forW).size = 3 := by rw [size_str]; rfl
        have HD := Lib.hid hd
        have g1 : ¬ 9223372036854775807 < 1 + (str forW).size := by omega
        have g2 : ¬ 9223372036854775807 < 1 + (str forW).size + 1 := by omega
        have g3 : ¬ 9223372036854775807 < 1 + (str forW).size + 1 + d.size := by omega
        have g4 : ¬ 9223372036854775807 < tt.size + (1 + (str forW).size + 1 + d.size) := by omega
        clear hd sw
        go_wp2_with fail
        refine wp_region_quiet_below (by kernel_rfl) (by kernel_rfl) ?_
        repeat (first
          | (open Go.BigFrame in go_big_quiet_step ((first | (with_reducible exact Calls.regrown_of (D1.out _ _)))))
          | (quiet_step ((first | (with_reducible exact Calls.regrown_of (D1.out _ _))))))
        refine wpQuiet_nil ?_
        rintro w6 ⟨z6, hw6⟩
        have hb6 : Below wr.heap.size wr w6 := by rw [hw6]; exact below_regrown _ _ _
        have HB6 := Lib.hid (HB.out.trans (hb6.mono hsz))
        have HN6 := Lib.hid ((hb6.block _ (Array.getElem?_eq_some_iff.1 HNB.out).1).trans HNB.out)
        clear hw6 hb6 y0
        go_wp2_with fail
        refine ⟨⟨2, _, by omega, by go_num, rfl, ?_, HB6.out, HN6.out⟩, by simp [intOf]⟩
        rw [← HD.out]
        simp only [bts_append, bts_str, HBT.out, stgParts1, stgParts2, List.append_assoc]
        simp [partText, HH0.out, bts]
    · rw [show ((2 : Nat) : Int) = 2 from rfl]
      have htt : bts tt = partText belowW x.below ++ partText forW x.ticks := by rw [HBT.out, stgParts2]
      have HTT := Lib.hid htt
      obtain ⟨e1, he1⟩ : ∃ d, str (Lib.itoa x.temp) = d := ⟨_, rfl⟩
      obtain ⟨e2, he2⟩ : ∃ d, str (Lib.itoa x.dep) = d := ⟨_, rfl⟩
      have s1 : e1.size ≤ 21 := by rw [← he1]; exact sz_itoa _ (by omega) (by omega)
      have s2 : e2.size ≤ 21 := by rw [← he2]; exact sz_itoa _ (by omega) (by omega)
      have D1 : Hid (∀ d' os, Calls Tryd.prog 38 #[.int .i64 x.temp] (grow (redrawn wr d') os) fun e w' => e = .returned (.string e1) ∧ Below (grow (redrawn wr d') os).heap.size (grow (redrawn wr d') os) w') := fun d' os => by
        rw [← he1]; exact itoa_any _ _ (by omega) (by omega) (HVR.out.next (below_regrown wr d' os)).2.1
      have D2 : Hid (∀ d' os, Calls Tryd.prog 38 #[.int .i64 x.dep] (grow (redrawn wr d') os) fun e w' => e = .returned (.string e2) ∧ Below (grow (redrawn wr d') os).heap.size (grow (redrawn wr d') os) w') := fun d' os => by
        rw [← he2]; exact itoa_any _ _ (by omega) (by omega) (HVR.out.next (below_regrown wr d' os)).2.1
      have y0 : ∀ d os, (grow (redrawn wr d) os).cell? ⟨0, 2, none⟩ = some (.string (str atW)) := fun d os => cell_regrown (HVR.out.1 2 _ rfl) d os
      have y1 : ∀ d os, (grow (redrawn wr d) os).cell? ⟨w.heap.size, 2, none⟩ = some (.int .i64 x.temp) := fun d os => cell_regrown (by rw [cell_of_row wr _ 2 _ _ (0, 0) HNB.out]; rfl) d os
      have y2 : ∀ d os, (grow (redrawn wr d) os).cell? ⟨w.heap.size, 3, none⟩ = some (.int .i64 x.dep) := fun d os => cell_regrown (by rw [cell_of_row wr _ 3 _ _ (0, 0) HNB.out]; rfl) d os
      have sw : (str atW).size = 2 := by rw [size_str]; rfl
      have HD := Lib.hid (And.intro he1 he2)
      have g1 : ¬ 9223372036854775807 < tt.size + 1 := by omega
      have g2 : ¬ 9223372036854775807 < tt.size + 1 + (str atW).size := by omega
      have g3 : ¬ 9223372036854775807 < tt.size + 1 + (str atW).size + 1 := by omega
      have g4 : ¬ 9223372036854775807 < tt.size + 1 + (str atW).size + 1 + e1.size := by omega
      have g5 : ¬ 9223372036854775807 < tt.size + 1 + (str atW).size + 1 + e1.size + 3 := by omega
      have g6 : ¬ 9223372036854775807 < tt.size + 1 + (str atW).size + 1 + e1.size + 3 + e2.size := by omega
      have g7 : ¬ 9223372036854775807 < tt.size + 1 + (str atW).size + 1 + e1.size + 3 + e2.size + 1 := by omega
      clear htt he1 he2 sw
      go_wp2_with fail
      refine wp_region_quiet_below (by kernel_rfl) (by kernel_rfl) ?_
      repeat (first
        | (open Go.BigFrame in go_big_quiet_step ((first | (with_reducible exact Calls.regrown_of (D1.out _ _)) | (with_reducible exact Calls.regrown_of (D2.out _ _)))))
        | (quiet_step ((first | (with_reducible exact Calls.regrown_of (D1.out _ _)) | (with_reducible exact Calls.regrown_of (D2.out _ _))))))
      refine wpQuiet_nil ?_
      rintro w6 ⟨z6, hw6⟩
      have hb6 : Below wr.heap.size wr w6 := by rw [hw6]; exact below_regrown _ _ _
      have HB6 := Lib.hid (HB.out.trans (hb6.mono hsz))
      clear hw6 hb6 y0 y1 y2
      go_wp2_with fail
      go_ret
      refine ⟨?_, HB6.out⟩
      congr 2
      rw [← str_bts (_ ++ _), ← HD.out.1, ← HD.out.2]
      congr 1
      simp only [bts_append, bts_str, HTT.out, stgText, List.append_assoc]
      simp [bts]

end Go.Proofs.YtabdlldkkcjppaaDoor

namespace Saw
theorem scTexts_len {l : List Sc} (h : validP l = true) (k : Nat) : ((l.take k).flatMap scText).length ≤ 5600 := by
  have h1 := (formatSc_len (validP_take h k)).1
  rwa [formatSc, if_pos (validP_take h k)] at h1
theorem scHead_len {x : Sc} (h : checkSc x = 0) : (scHead x).length ≤ 100 := by
  obtain ⟨h1, h2, h3, _⟩ := checkSc_ok h
  have := isNameP_len h1
  have := itoa5 x.ramp (by omega) (by omega)
  simp only [scHead, List.length_append, scheduleW, rampW, List.length_cons, List.length_nil]
  omega
end Saw
namespace Go.Proofs.YtabdlldkkcjppaaDoor
open Go.RowKit Saw

theorem below_undrew {w w' : World} (h : Below w.drew.heap.size w.drew w') : Below w.heap.size w w' := ⟨h.os, h.tape, h.output, h.size, h.block⟩
theorem bts_scHead (x : Sc) : bts ((⟨#[115, 99, 104, 101, 100, 117, 108, 101, 32]⟩ : ByteArray) ++ str x.name ++ ⟨#[32, 114, 97, 109, 112, 32]⟩ ++ str (Lib.itoa x.ramp) ++ ⟨#[58]⟩) = scHead x := by
  rw [bts_append, bts_append, bts_append, bts_append, bts_str, bts_str]
  simp only [scHead, scheduleW, rampW, List.append_assoc]
  rfl
theorem boxS_other {w w' : World} {N b : Nat} {cs : Array Value} (h : w.heap[N]? = some (.cells cs 24 (0, 0))) (ho : OtherB b w w') (hne : b ≠ N) : w'.heap[N]? = some (.cells cs 24 (0, 0)) :=
  ho N _ h (fun e => hne (by injection e with e; exact e.symm)) (fun c fz e => by injection e with e1 e2; exact absurd e2 (by decide))
theorem cell_box {w : World} {N j : Nat} {cs : Array Value} {t : TypeId} {v : Value} (h : w.heap[N]? = some (.cells cs t (0, 0))) (hv : cs[j]? = some v) : w.cell? ⟨N, j, none⟩ = some v := by
  rw [cell_of_row w N j cs t (0, 0) h]; exact hv

set_option maxRecDepth 100000 in
set_option maxHeartbeats 1000000 in
theorem scFormat_any (l : List Sc) (v : Value) (w : World) (hrd : RdSc w w.heap.size v l) (hle : ∀ x ∈ l, x.stages.length ≤ 1000000) (hnm : ∀ x ∈ l, x.name.length ≤ 1000000) (hv : VarsS w) :
    Calls Tryd.prog 23 #[v] w (StrPost (formatSc l) w) := by
  obtain ⟨A, c, rfl, hc, hml⟩ := hrd.form
  obtain ⟨r, hr⟩ : ∃ r, formatSc l = r := ⟨_, rfl⟩
  rw [hr]
  unfold maxLen at hml
  have HR := Lib.hid hr
  have HRD := Lib.hid hrd
  have HNM := Lib.hid hnm
  have HLE := Lib.hid hle
  have HV := Lib.hid hv
  clear hr hrd hnm hle hv
  go_enter Tryd.func23, Tryd.ntmps23
  go_wp2_with fail
  refine (scValid_any l _ _ HRD.out HLE.out HNM.out).mono ?_
  rintro e w1 ⟨he, hb1⟩
  have HB1 := Lib.hid hb1
  have hsz1 := hb1.size
  clear hb1
  cases hq : validP l with
  | false =>
    rw [hq] at he
    subst he
    have hre : r = [] := by rw [← HR.out, formatSc, if_neg (by rw [hq]; decide)]
    subst hre
    clear hq
    go_wp2_with fail
    go_ret
    exact ⟨rfl, HB1.out⟩
  | true =>
    rw [hq] at he
    subst he
    have HQ := Lib.hid hq
    have HRF := Lib.hid (show l.flatMap scText = r by rw [← HR.out, formatSc, if_pos hq])
    have HALL := Lib.hid (validP_mem hq)
    have hl8 := (validP_all hq).1
    clear hq HR
    go_wp2_with fail
    go_loopw [13] (fun i wr => ∃ k : Nat, k ≤ l.length ∧ i = .int .i64 k ∧ IsSb wr w.heap.size w1.heap.size ((l.take k).flatMap scText) ∧ Below w.heap.size w wr) (fun i _ => l.length - (intOf i).toNat)
    case atStart => exact ⟨0, by omega, rfl, sb_new w1 _ hsz1, HB1.out.alloc hsz1 _⟩
    case round =>
      obtain ⟨k, hk, rfl, hsb, hb⟩ := hrel
      have hlb := hsb.lt.1
      have HSB := Lib.hid hsb
      have HB := Lib.hid hb
      have hszr := hb.size
      clear hsb hb
      by_cases hlt : k < l.length
      · have hx : l[k]? = some l[k] := List.getElem?_eq_getElem hlt
        obtain ⟨x, hxe⟩ : ∃ x, l[k] = x := ⟨_, rfl⟩
        rw [hxe] at hx
        have hxc := HALL.out x (List.mem_of_getElem? hx)
        obtain ⟨hxn, hr1, hr2, hs1, hs2, hso⟩ := checkSc_ok hxc
        obtain ⟨b, off, A1, c1, rfl, hbl, hm1, _, hst, z0, z1, z2⟩ := RdSc.at_ HRD.out hx
        have q0 := (HB.out.cell (p := ⟨b, off + k * 3, none⟩) hbl).trans z0
        have q1 := (HB.out.cell (p := ⟨b, off + k * 3 + 1, none⟩) hbl).trans z1
        have q2 := (HB.out.cell (p := ⟨b, off + k * 3 + 2, none⟩) hbl).trans z2
        have hbr : b < wr.heap.size := by omega
        unfold maxLen at hm1
        have hnl := isNameP_len hxn
        have HX := Lib.hid hx
        have hsn : (str x.name).size ≤ 16 := by rw [size_str]; omega
        have HST := Lib.hid hst
        have HSO := Lib.hid hso
        obtain ⟨acc, hacc⟩ : ∃ acc, (l.take k).flatMap scText = acc := ⟨_, rfl⟩
        have hal : acc.length ≤ 5600 := by rw [← hacc]; exact scTexts_len HQ.out k
        have HACC := Lib.hid hacc
        have HSB1 := Lib.hid (show IsSb wr w.heap.size w1.heap.size acc by rw [← hacc]; exact HSB.out)
        have hhl := scHead_len hxc
        clear hx hxn hxe hxc hst hso hacc HSB z0 z1 z2
        go_wp2_with fail
        obtain ⟨N, hN⟩ : ∃ N, wr.heap.size = N := ⟨_, rfl⟩
        obtain ⟨V, hV⟩ : ∃ V, wr.alloc (.cells #[.string (str x.name), .int .i64 x.ramp, .slice A1 x.stages.length c1] 24) = V := ⟨_, rfl⟩
        have HNV := Lib.hid (show V.heap[N]? = some (.cells #[.string (str x.name), .int .i64 x.ramp, .slice A1 x.stages.length c1] 24 (0, 0)) by rw [← hV, ← hN]; exact heap_alloc_last wr _)
        have hNV : N < V.heap.size := by rw [← hV, World.size_alloc]; omega
        have HBV := Lib.hid (show Below w.heap.size w V by rw [← hV]; exact HB.out.alloc hszr _)
        have HSBV := Lib.hid (show IsSb V w.heap.size w1.heap.size acc by rw [← hV]; exact HSB1.out.below ((Below.refl _ _).alloc (Nat.le_refl _) _))
        have hbN : w1.heap.size ≠ N := by omega
        rw [hV, hN]
        have HI1 : Hid (∀ W, Below w.heap.size w W → Calls Tryd.prog 38 #[.int .i64 x.ramp] W fun e w' => e = .returned (.string (str (Lib.itoa x.ramp))) ∧ Below W.heap.size W w') := fun W hW => itoa_any x.ramp W (by omega) (by omega) (HV.out.next hW).2.1
        have s1 := sz_itoa x.ramp (by omega) (by omega)
        have HSA : Hid (∀ W : World, W.heap[N]? = some (.cells #[.string (str x.name), .int .i64 x.ramp, .slice A1 x.stages.length c1] 24 (0, 0)) → W.cell? ⟨N, 0, none⟩ = some (.string (str x.name)) ∧ W.cell? ⟨N, 1, none⟩ = some (.int .i64 x.ramp)) := fun W hW => ⟨cell_box hW rfl, cell_box hW rfl⟩
        have g1 : ¬ 9223372036854775807 < 9 + (str x.name).size := by omega
        have g2 : ¬ 9223372036854775807 < 9 + (str x.name).size + 6 := by omega
        have g3 : ¬ 9223372036854775807 < 9 + (str x.name).size + 6 + (str (Lib.itoa x.ramp)).size := by omega
        have g4 : ¬ 9223372036854775807 < 9 + (str x.name).size + 6 + (str (Lib.itoa x.ramp)).size + 1 := by omega
        have hHBV := HBV.out.size
        clear hV hN HB HSB1 q0 q1 q2
        go_region_held3 (fun W => W.cell? ⟨N, 0, none⟩ = some (.string (str x.name)) ∧ W.cell? ⟨N, 1, none⟩ = some (.int .i64 x.ramp))
          (first | exact HSA.out _ HNV.out | exact HSA.out _ hk5 | exact HSA.out _ hk7)
          (first
            | (go_at_call 38; refine (HI1.out _ HBV.out.drew).mono ?_; rintro e w5 ⟨rfl, hb5'⟩; have hb5 := below_undrew hb5'; have hk5 := (hb5.block N hNV).trans HNV.out; have hw5 := HBV.out.trans (hb5.mono hHBV))
            | (go_at_call 37; refine (sb_write w.heap.size w1.heap.size acc _ _ (HSBV.out.below hb5) (by rw [size_bts, bts_scHead]; omega) hw5.size).mono ?_; rintro e w7 ⟨rfl, hsb7, hb7, hot7⟩; have hk7 := boxS_other hk5 hot7 hbN))
        have HSBQ := Lib.hid (show IsSb w7 w.heap.size w1.heap.size (acc ++ scHead x) by have h9 := hsb7; rw [bts_scHead] at h9; exact h9)
        have HNQ := Lib.hid hk7
        have hNQ : N < w7.heap.size := (Array.getElem?_eq_some_iff.1 hk7).1
        have HBQ := Lib.hid (hw5.trans hb7)
        clear hsb7 hk7 hk5 hb5 hb5' hb7 hot7 hw5 HI1 s1 HSA g1 g2 g3 g4
        clear HNV HBV HSBV hHBV
        rename_i hheld
        clear hheld
        have c5 := cell_box HNQ.out (j := 2) (v := .slice A1 x.stages.length c1) rfl
        obtain ⟨accH, haccH⟩ : ∃ accH, acc ++ scHead x = accH := ⟨_, rfl⟩
        have lnH : accH.length ≤ 5700 := by rw [← haccH, List.length_append]; omega
        rw [haccH] at HSBQ
        have HACH := Lib.hid haccH
        clear haccH
        go_wp2_with fail
        go_loopw [30] (fun i wq => ∃ j : Nat, j ≤ x.stages.length ∧ i = .int .i64 j ∧ IsSb wq w.heap.size w1.heap.size (accH ++ (x.stages.take j).flatMap stgText) ∧ Below w.heap.size w wq) (fun i _ => x.stages.length - (intOf i).toNat)
        case atStart => exact ⟨0, by omega, rfl, by rw [List.take_zero, List.flatMap_nil, List.append_nil]; exact HSBQ.out, HBQ.out⟩
        case round =>
          obtain ⟨j, hj, rfl, hsb4, hb4⟩ := hrel
          have HSBR := Lib.hid hsb4
          have HBR := Lib.hid hb4
          have hsz4 := hb4.size
          have lnj : ((x.stages.take j).flatMap stgText).length ≤ 600 := by
            have h9 := stgsText_len (x.stages.take j) (fun y hy => HSO.out y (List.mem_of_mem_take hy))
            rw [List.length_take] at h9
            omega
          clear hsb4 hb4 HSBQ HBQ HNQ c5
          by_cases hjl : j < x.stages.length
          · have hy : x.stages[j]? = some x.stages[j] := List.getElem?_eq_getElem hjl
            obtain ⟨y, hye⟩ : ∃ y, x.stages[j] = y := ⟨_, rfl⟩
            rw [hye] at hy
            obtain ⟨b2, o2, rfl, hb2, p0, p1, p2, p3⟩ := RdSt.at_ (HST.out.below HBR.out) hy
            have HYS := Lib.hid (HSO.out y (List.mem_of_getElem? hy))
            have HY := Lib.hid hy
            have hb2r : b2 < wr.heap.size := by omega
            have hyl := stgText_len HYS.out
            clear hye hy
            go_wp2_with fail
            refine (stageText_any y _ (HV.out.next (HBR.out.alloc hsz4 _)) HYS.out).mono ?_
            rintro e w8 ⟨he, hb8⟩
            subst he
            have HB8 := Lib.hid ((HBR.out.alloc hsz4 _).trans (hb8.mono (by rw [World.size_alloc]; omega)))
            have hsz8 := HB8.out.size
            have HSB8 := Lib.hid (IsSb.below (IsSb.below HSBR.out ((Below.refl _ _).alloc (Nat.le_refl _) _)) hb8)
            clear hb8 p0 p1 p2 p3
            go_wp2_with fail
            refine (sb_write w.heap.size w1.heap.size _ _ _ HSB8.out (by rw [size_str, List.length_append]; omega) hsz8).mono ?_
            rintro e w9 ⟨rfl, hsb9, hb9, _⟩
            have HSB9 := Lib.hid hsb9
            have HB9 := Lib.hid (HB8.out.trans hb9)
            clear hsb9 hb9
            go_wp2_with fail
            refine ⟨⟨j + 1, by omega, by go_num, ?_, HB9.out⟩, by simp [intOf]; omega⟩
            have h9 := HSB9.out
            rw [bts_str] at h9
            rw [List.take_add_one, HY.out, List.flatMap_append, ← List.append_assoc]
            simpa using h9
          · obtain hje : j = x.stages.length := by omega
            have HSBE := Lib.hid (show IsSb wr w.heap.size w1.heap.size (accH ++ x.stages.flatMap stgText) by have h9 := HSBR.out; rw [hje, List.take_length] at h9; exact h9)
            rw [hje, List.take_length] at lnj
            subst hje
            go_wp2_with fail
            refine (sb_write w.heap.size w1.heap.size _ _ _ HSBE.out (by have h2 : (⟨#[10]⟩ : ByteArray).size = 1 := rfl; rw [List.length_append]; omega) hsz4).mono ?_
            rintro e w8 ⟨rfl, hsb8, hb8, _⟩
            have HSB8 := Lib.hid hsb8
            have HB8 := Lib.hid (HBR.out.trans hb8)
            clear hsb8 hb8
            go_wp2_with fail
            refine ⟨⟨k + 1, by omega, by go_num, ?_, HB8.out⟩, by simp [intOf]; omega⟩
            have h9 := HSB8.out
            rw [List.take_add_one, HX.out, List.flatMap_append, HACC.out]
            rw [← HACH.out, show bts ⟨#[10]⟩ = [10] from rfl] at h9
            simpa [scText] using h9
      · have hke : k = l.length := by omega
        have HSBE := Lib.hid (show IsSb wr w.heap.size w1.heap.size r by have := HSB.out; rw [hke, List.take_length, HRF.out] at this; exact this)
        clear hke
        go_wp2_with fail
        refine (sb_string w.heap.size w1.heap.size r _ HSBE.out hszr).mono ?_
        rintro e w7 ⟨rfl, hb7⟩
        have HB7 := Lib.hid (HB.out.trans hb7)
        clear hb7
        go_wp2_with fail
        go_ret
        exact ⟨rfl, HB7.out⟩

end Go.Proofs.YtabdlldkkcjppaaDoor
