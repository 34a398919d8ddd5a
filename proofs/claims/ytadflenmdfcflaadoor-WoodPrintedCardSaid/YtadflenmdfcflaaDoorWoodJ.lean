/-
  The contract of wood.Format.
-/
import Derived.Test.YtadflenmdfcflaaDoorWoodD
import Derived.Test.YtadflenmdfcflaaDoorWoodG
import Derived.Test.YtadflenmdfcflaaDoorPlainA
import Derived.Test.YtadflenmdfcflaaDoorSbK
import Derived.Test.YtadflenmdfcflaaDoorCat
import Derived.Deep.RegionHeld3
namespace Go.Proofs.YtadflenmdfcflaaDoor
open Go.RowKit Saw

def StrBelow (l : List UInt8) (w : World) (e : Ending) (w' : World) : Prop := e = .returned (.string (str l)) ∧ Below w.heap.size w w'

theorem zip_len (x : Sp) : (wordsL.zip x.nums).length = 12 := rfl
theorem spText_len {x : Sp} (h : isNameP x.name = true) (hr : inRangeP x = true) : (spText x).length ≤ 600 := by
  have h1 := isNameP_len h
  have h2 := inRange_bd hr
  have h3 : ∀ p ∈ wordsL.zip x.nums, (wordNum p).length ≤ 40 := by
    intro p hp
    have ha := List.of_mem_zip hp
    have hb := h2 p.2 ha.2
    refine wordNum_len p ?_ hb.1 hb.2
    have : ∀ s ∈ wordsL, s.length ≤ 8 := by decide
    exact this p.1 ha.1
  have h4 : ((wordsL.zip x.nums).flatMap wordNum).length ≤ 12 * 40 := by
    have : ∀ (ps : List (List UInt8 × Int)), (∀ p ∈ ps, (wordNum p).length ≤ 40) → (ps.flatMap wordNum).length ≤ ps.length * 40 := by
      intro ps
      induction ps with
      | nil => intro _; simp
      | cons p r ih =>
        intro hp
        rw [List.flatMap_cons, List.length_append, List.length_cons]
        have := ih (fun q hq => hp q (by simp [hq]))
        have := hp p (by simp)
        omega
    have := this _ h3
    rw [zip_len] at this
    exact this
  have h5 : speciesW.length = 7 := rfl
  simp only [spText, spHead, List.length_append, List.length_cons, List.length_nil]
  omega
theorem text_len {l : List Sp} (h : ∀ i, i < l.length → ∃ x, l[i]? = some x ∧ isNameP x.name = true ∧ (findSp (l.take i) x.name) = none ∧ inRangeP x = true) : ∀ k, k ≤ l.length → ((l.take k).flatMap spText).length ≤ k * 600
  | 0, _ => by simp
  | k + 1, hk => by
    obtain ⟨x, hx, h1, _, h2⟩ := h k (by omega)
    have ih := text_len h k (by omega)
    have := spText_len h1 h2
    rw [List.take_add_one, hx, List.flatMap_append, List.length_append]
    simp only [Option.toList_some, List.flatMap_cons, List.flatMap_nil, List.append_nil]
    omega

theorem inner_len {acc : List UInt8} {x : Sp} {k : Nat} (ha : acc.length ≤ k * 600) (hk : k ≤ 8) (hr : inRangeP x = true) (hn : x.name.length ≤ 16) (j : Nat) : (acc ++ spHead x ++ ((wordsL.zip x.nums).take j).flatMap wordNum).length ≤ 8 * 600 + 1000 + 12 * 40 := by
  have h2 := inRange_bd hr
  have h3 : ∀ p ∈ (wordsL.zip x.nums).take j, (wordNum p).length ≤ 40 := by
    intro p hp
    have ha := List.of_mem_zip (List.mem_of_mem_take hp)
    have hb := h2 p.2 ha.2
    refine wordNum_len p ?_ hb.1 hb.2
    have : ∀ s ∈ wordsL, s.length ≤ 8 := by decide
    exact this p.1 ha.1
  have h4 : (((wordsL.zip x.nums).take j).flatMap wordNum).length ≤ 12 * 40 := by
    have : ∀ (ps : List (List UInt8 × Int)), (∀ p ∈ ps, (wordNum p).length ≤ 40) → (ps.flatMap wordNum).length ≤ ps.length * 40 := by
      intro ps
      induction ps with
      | nil => intro _; simp
      | cons p r ih =>
        intro hp
        rw [List.flatMap_cons, List.length_append, List.length_cons]
        have := ih (fun q hq => hp q (by simp [hq]))
        have := hp p (by simp)
        omega
    have := this _ h3
    have h9 : ((wordsL.zip x.nums).take j).length ≤ 12 := by rw [List.length_take, zip_len]; omega
    omega
  have h5 : speciesW.length = 7 := rfl
  simp only [spHead, List.length_append, List.length_cons]
  omega
theorem below_drew {w w' : World} (h : Below w.drew.heap.size w.drew w') : Below w.heap.size w w' := ⟨h.os, h.tape, h.output, h.size, h.block⟩
theorem keep_cell {w wr W : World} {j : Nat} {v : Value} {B : Nat} (hc : wr.cell? ⟨0, j, none⟩ = some v) (hB : w.heap.size ≤ B) (hg : Below w.heap.size w wr) (h : Below B wr W) (hz : 4 ≤ w.heap.size := by assumption) : W.cell? ⟨0, j, none⟩ = some v ∧ Below w.heap.size w W :=
  ⟨(h.cell (p := ⟨0, j, none⟩) (show 0 < B by omega)).trans hc, hg.trans (h.mono hB)⟩

set_option maxRecDepth 100000 in
set_option maxHeartbeats 1000000 in
theorem format_any (l : List Sp) (v : Value) (w : World) (hrd : RdSp w v l) (hnm : ∀ x ∈ l, x.name.length ≤ 1000000) (hwd : w.rangeAt 0 0 wordCells) (hpw : Pow w) (hgl : 4 ≤ w.heap.size) :
    Calls Tryd.prog 22 #[v] w (StrBelow (formatSp l) w) := by
  obtain ⟨A, c, rfl, hc, hml⟩ := hrd.form
  obtain ⟨r, hr⟩ : ∃ r, formatSp l = r := ⟨_, rfl⟩
  rw [hr]
  unfold maxLen at hml
  have HR := Lib.hid hr
  have HRD := Lib.hid hrd
  have HNM := Lib.hid hnm
  have HWD := Lib.hid hwd
  have HPW := Lib.hid hpw
  clear hr hrd hnm hwd hpw
  go_enter Tryd.func22, Tryd.ntmps22
  go_wp2_with fail
  refine (check_any l _ _ HRD.out HNM.out).mono ?_
  rintro e w1 ⟨he, hb1⟩
  obtain ⟨q, hq⟩ : ∃ q, checkSp l = q := ⟨_, rfl⟩
  rw [hq] at he
  subst he
  have HB1 := Lib.hid hb1
  have hsz1 := hb1.size
  clear hb1
  by_cases hq0 : q = 0
  · subst hq0
    obtain ⟨hl8, hall⟩ := checkSp_all hq
    have hrf : l.flatMap spText = r := by rw [← HR.out, formatSp, if_pos hq]
    have HRF := Lib.hid hrf
    have HALL := Lib.hid hall
    clear hq hall hrf HR
    go_wp2_with fail
    go_loopw [13] (fun i wr => ∃ k : Nat, k ≤ l.length ∧ i = .int .i64 k ∧ IsSb wr w.heap.size w1.heap.size ((l.take k).flatMap spText) ∧ Below w.heap.size w wr) (fun i _ => l.length - (intOf i).toNat)
    case atStart => exact ⟨0, by omega, rfl, sb_new w1 _ hsz1, HB1.out.alloc hsz1 _⟩
    case round =>
      obtain ⟨k, hk, rfl, hsb, hb⟩ := hrel
      have HSB := Lib.hid hsb
      have HB := Lib.hid hb
      have hszr := hb.size
      clear hsb hb
      by_cases hlt : k < l.length
      · obtain ⟨x, hx, hxn, _, hxr⟩ := HALL.out k hlt
        obtain ⟨b, off, rfl, hbl, hrg⟩ := RdSp.at_ HRD.out hx
        have HRG := Lib.hid (rangeAt_below HB.out hbl hrg)
        have hnl := isNameP_len hxn
        have HX := Lib.hid hx
        have hsn : (str x.name).size ≤ 16 := by rw [size_str]; omega
        have HXR := Lib.hid hxr
        have c0 := spC0 x
        clear hx hxn hxr hrg
        go_wp2_with (first
          | ((with_reducible refine sp_load b (off + k * 13) x ?hx HRG.out ?_); (case hx => rfl))
          | ((with_reducible refine sp_alloc ?_); intro c5 H5)
          | ((with_reducible refine sp_new x wr.heap.size ?hx rfl ?hy H5 ?_); (case hx => rfl); (case hy => rfl)))
        obtain ⟨acc, hacc⟩ : ∃ acc, (l.take k).flatMap spText = acc := ⟨_, rfl⟩
        have hal : acc.length ≤ k * 600 := by rw [← hacc]; exact text_len (fun i hi => HALL.out i hi) k hk
        have HACC := Lib.hid hacc
        have HSB1 := Lib.hid (show IsSb wr w.heap.size w1.heap.size acc by rw [← hacc]; exact HSB.out)
        clear hacc
        refine (sb_write w.heap.size w1.heap.size acc _ _ (HSB1.out.below ((Below.refl _ _).alloc (Nat.le_refl _) _)) (by rw [ByteArray.size_append]; have : (⟨#[115, 112, 101, 99, 105, 101, 115, 32]⟩ : ByteArray).size = 8 := rfl; omega) (by rw [World.size_alloc]; omega)).mono ?_
        rintro e w2 ⟨rfl, hsb2, hb2, hot2⟩
        rw [bts_append, bts_str, show bts ⟨#[115, 112, 101, 99, 105, 101, 115, 32]⟩ ++ x.name = spHead x by rw [spHead, show bts ⟨#[115, 112, 101, 99, 105, 101, 115, 32]⟩ = speciesW ++ [32] from rfl, List.append_assoc]; rfl] at hsb2
        have HN2 := Lib.hid (hot2 wr.heap.size _ (heap_alloc_last wr _) (fun e => by injection e with e; have := HSB1.out.lt; omega) (fun c fz e => by injection e with e1 e2; exact absurd e2 (by decide)))
        have HB2 := Lib.hid ((HB.out.alloc hszr (.cells (spCells x).toArray 26)).trans hb2)
        have hsz2 := HB2.out.size
        have HSB2 := Lib.hid hsb2
        clear hsb2 hb2 hot2
        go_wp2_with ((with_reducible refine sp_load wr.heap.size 0 x ?hx (rangeAt_block HN2.out) ?_); (case hx => rfl))
        refine (numbers_any x _).mono ?_
        rintro e w3 ⟨rfl, hb3⟩
        have HB3 := Lib.hid (HB2.out.trans (hb3.mono hsz2))
        have HSB3 := Lib.hid (HSB2.out.below hb3)
        clear hb3
        go_wp2_with fail
        go_loopw [23] (fun i wr => ∃ j : Nat, j ≤ 12 ∧ i = .int .i64 j ∧ IsSb wr w.heap.size w1.heap.size (acc ++ spHead x ++ ((wordsL.zip x.nums).take j).flatMap wordNum) ∧ Below w.heap.size w wr) (fun i _ => 12 - (intOf i).toNat)
        case atStart => exact ⟨0, by omega, rfl, by have := HSB3.out; rw [List.take_zero, List.flatMap_nil, List.append_nil]; exact this, HB3.out⟩
        case round =>
          obtain ⟨j, hj, rfl, hsb4, hb4⟩ := hrel
          have HSB4 := Lib.hid hsb4
          have HB4 := Lib.hid hb4
          have hsz4 := hb4.size
          clear hsb4 hb4
          by_cases hjl : j < 12
          · obtain ⟨n, _, _, _, hnj, hix, _, _⟩ := nums_index x j hjl
            obtain ⟨s, hws, _⟩ := words_index j hjl
            have hzp : (wordsL.zip x.nums)[j]? = some (s, n) := by rw [List.getElem?_zip_eq_some]; exact ⟨hws, hnj⟩
            have hnb := inRange_bd HXR.out n (List.mem_of_getElem? hnj)
            have hsl : (str s).size ≤ 8 := by
              rw [size_str]
              have : ∀ s ∈ wordsL, s.length ≤ 8 := by decide
              exact this s (List.mem_of_getElem? hws)
            have hil : (str (Lib.itoa n)).size ≤ 21 := by rw [size_str]; exact Lib.itoa_length_le n (by omega) (by omega)
            have hcw : wr.cell? ⟨0, j, none⟩ = some (.string (str s)) := by
              have := rangeAt_below HB4.out (by omega) HWD.out j (.string (str s)) (by rw [wordCells, List.getElem?_map, hws]; rfl)
              rwa [Nat.zero_add] at this
            have HIT : Hid (∀ W, Below w.heap.size w W → Calls Tryd.prog 37 #[.int .i64 n] W fun e w' => e = .returned (.string (str (Lib.itoa n))) ∧ Below W.heap.size W w') := fun W hW => itoa_any n W (by omega) (by omega) (HPW.out.below hW (by omega))
            have hj0 : (0 : Int) ≤ (j : Int) := by omega
            have hj1 : (j : Int) < 12 := by omega
            have HZP := Lib.hid hzp
            clear hzp hws hnj
            have h32 : (⟨#[32]⟩ : ByteArray).size = 1 := rfl
            have q1 : ¬ 9223372036854775807 < 1 + (str s).size := by omega
            have q2 : ¬ 9223372036854775807 < 1 + (str s).size + 1 := by omega
            have q3 : ¬ 9223372036854775807 < 1 + (str s).size + 1 + (str (Lib.itoa n)).size := by omega
            have hs1 : ((⟨#[32]⟩ : ByteArray) ++ str s).size ≤ 9 := by rw [ByteArray.size_append]; omega
            have hs2 : ((⟨#[32]⟩ : ByteArray) ++ str s ++ ⟨#[32]⟩).size ≤ 10 := by rw [ByteArray.size_append]; omega
            have hs3 : ((⟨#[32]⟩ : ByteArray) ++ str s ++ ⟨#[32]⟩ ++ str (Lib.itoa n)).size ≤ 31 := by rw [ByteArray.size_append]; omega
            have hb3 : bts ((⟨#[32]⟩ : ByteArray) ++ str s ++ ⟨#[32]⟩ ++ str (Lib.itoa n)) = wordNum (s, n) := by
              rw [bts_append, bts_append, bts_append, bts_str, bts_str, show bts ⟨#[32]⟩ = [32] from rfl, wordNum]; simp
            have hln : (acc ++ spHead x ++ ((wordsL.zip x.nums).take j).flatMap wordNum).length ≤ 8 * 600 + 1000 + 12 * 40 := inner_len hal (by omega) HXR.out (by omega) j
            have HB3' := Lib.hid hb3
            have HS3 := Lib.hid hs3
            clear hb3 h32 hs1 hs2 hs3
            go_wp2_with fail
            go_region_held3 (fun W => W.cell? ⟨0, j, none⟩ = some (.string (str s)) ∧ Below w.heap.size w W)
              (first | exact keep_cell hcw (Nat.le_refl _) HB4.out (Below.refl _ _).drew | exact keep_cell hcw hsz4 HB4.out (below_drew hb5) | exact keep_cell hcw (Nat.le_refl _) HB4.out (((below_drew hb5).mono hsz4).trans hb6))
              (first
                | (go_at_call 37; refine (HIT.out _ (And.right (by assumption))).mono ?_; rintro e w5 ⟨rfl, hb5⟩)
                | (go_at_call 35; refine (sb_write w.heap.size w1.heap.size _ _ _ (IsSb.below (w := wr) HSB4.out (below_drew hb5)) (by have := HS3.out; omega) (by have := hb5.size; exact Nat.le_trans hsz4 this)).mono ?_; rintro e w6 ⟨rfl, hsb6, hb6, _⟩))
            go_wp2_with fail
            refine ⟨⟨j + 1, by omega, by go_num, ?_, ?_⟩, by simp [intOf]; omega⟩
            · have := hsb6
              rw [HB3'.out] at this
              rw [List.take_add_one, HZP.out, List.flatMap_append, ← List.append_assoc]
              simpa using this
            · exact HB4.out.trans (((below_drew hb5).mono hsz4).trans hb6)
          · obtain rfl : j = 12 := by omega
            go_wp2_with fail
            refine (sb_write w.heap.size w1.heap.size _ _ _ HSB4.out (by have := inner_len (x := x) hal (show k ≤ 8 by omega) HXR.out (by omega) 12; have h2 : (⟨#[59, 10]⟩ : ByteArray).size = 2 := rfl; omega) hsz4).mono ?_
            rintro e w7 ⟨rfl, hsb7, hb7, _⟩
            have HSB7 := Lib.hid hsb7
            have HB7 := Lib.hid (HB4.out.trans hb7)
            clear hsb7 hb7
            go_wp2_with fail
            refine ⟨⟨k + 1, by omega, by go_num, ?_, HB7.out⟩, by simp [intOf]; omega⟩
            have := HSB7.out
            rw [List.take_add_one, HX.out, List.flatMap_append, HACC.out]
            rw [List.take_of_length_le (by rw [zip_len]; omega), show bts ⟨#[59, 10]⟩ = [59, 10] from rfl] at this
            simpa [spText] using this
      · have hke : k = l.length := by omega
        have HSBE := Lib.hid (show IsSb wr w.heap.size w1.heap.size r by have := HSB.out; rw [hke, List.take_length, HRF.out] at this; exact this)
        clear hke
        go_wp2_with fail
        refine (sb_string w.heap.size w1.heap.size r _ HSBE.out hszr).mono ?_
        rintro e w7 ⟨rfl, hb7⟩
        have HB7 := Lib.hid (HB.out.trans hb7)
        clear hb7
        go_wp2_with fail
        go_ret
        exact ⟨rfl, HB7.out⟩
  · have hqb : (q != 0) = true := by rw [bne_iff_ne]; exact hq0
    have hre : r = [] := by rw [← HR.out, formatSp, if_neg (by rw [hq]; exact hq0)]
    subst hre
    clear hq hq0
    go_wp2_with fail
    go_ret
    exact ⟨rfl, HB1.out⟩

end Go.Proofs.YtadflenmdfcflaaDoor
