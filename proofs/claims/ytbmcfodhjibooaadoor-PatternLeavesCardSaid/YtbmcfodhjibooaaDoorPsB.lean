/-
  The law's function awake (chapter 21).
-/
import Derived.Test.YtbmcfodhjibooaaDoorPsA
import Derived.Test.YtbmcfodhjibooaaDoorPaN
import Derived.Test.YtbmcfodhjibooaaDoorPbD
namespace Saw
def tAw : List UInt8 := [102, 114, 97, 109, 101, 32, 48, 32, 49, 48, 53, 32, 48, 32, 57, 48, 32, 123, 32, 121, 32, 52, 50, 32, 123, 32, 98, 111, 97, 114, 100, 32, 48, 32, 125, 32, 123, 32, 119, 97, 115, 116, 101, 32, 125, 32, 125]
def tBw : List UInt8 := [102, 114, 97, 109, 101, 32, 48, 32, 57, 32, 48, 32, 57, 32, 123, 32, 120, 32, 51, 32, 123, 32, 119, 97, 115, 116, 101, 32, 125, 32, 125]
def nAw : List Nd := [⟨3, 42⟩, ⟨1, 0⟩, ⟨0, 0⟩]
def rAw : Rc := ⟨0, 105, 0, 90⟩
def rowAw : List Nd := [⟨2, 40⟩, ⟨1, 1⟩, ⟨2, 46⟩, ⟨0, 0⟩, ⟨1, 2⟩]
def lvAw : List Lf := [⟨⟨0, 105, 0, 42⟩, 0⟩, ⟨⟨0, 105, 46, 90⟩, -1⟩]
def cvAw : List Rc := [⟨0, 105, 42, 46⟩]
def plankAw : Pr := ⟨[112, 108, 97, 110, 107], 40, 100, 50, 0, [2000], [70]⟩
theorem aw_p1 : parsePt tAw = ((rAw, nAw), 0, 0) := by kernel_rfl
theorem aw_p2 : parsePt tBw = ((⟨0, 0, 0, 0⟩, []), 5, 30) := by kernel_rfl
theorem aw_l : leavesP rAw nAw 4 = (lvAw, 0) := by kernel_rfl
theorem aw_c : cutsP rAw nAw 4 = (cvAw, 0) := by kernel_rfl
theorem aw_d : depthP nAw = 2 := by kernel_rfl
theorem aw_f : formatPt rAw nAw = tAw ++ [10] := by kernel_rfl
theorem aw_r : rowP ⟨0, 100, 0, 50⟩ 2 4 [(0, 40), (50, 100)] [[⟨1, 1⟩], [⟨1, 2⟩]] = (rowAw, 0) := by kernel_rfl
theorem aw_k : checkPt rAw nAw 4 (boardP [plankAw]) = 0 := by kernel_rfl
theorem aw_n : checkPt rAw nAw 4 (boardP []) = 8 := by kernel_rfl
end Saw
namespace Go.Proofs.YtbmcfodhjibooaaDoor
open Go.RowKit Saw Go.Sort
def LawX (w : World) (e : Ending) (w' : World) : Prop := e = .returned (.bool true) ∧ Below w.heap.size w w'

theorem rd_blk {w : World} {g len size : Nat} {cs : List Value} {t : TypeId} (h : w.heap[g]? = some (.cells cs.toArray t (0, 0))) (hl : cs.length = len * size) (hm : len ≤ maxLen) : Rd w w.heap.size size (.slice (some ⟨g, 0, none⟩) len len) len cs :=
  ⟨hl, hm, _, _, rfl, Nat.le_refl _, fun _ => ⟨g, 0, rfl, (Array.getElem?_eq_some_iff.1 h).1, fun j u hu => by rw [Nat.zero_add]; exact cell_of_box h (by simpa using hu)⟩⟩
theorem row_args {w W : World} (hW : (((w.alloc (.cells #[.int .i64 0, .int .i64 40, .int .i64 50, .int .i64 100] 23)).alloc (.cells #[.int .i64 1, .int .i64 1] 64)).alloc (.cells #[.int .i64 1, .int .i64 2] 64)).alloc (.cells #[.slice (some ⟨w.heap.size + 1, 0, none⟩) 1 1, .slice (some ⟨w.heap.size + 1 + 1, 0, none⟩) 1 1] 26) = W) :
    RdSp W W.heap.size (.slice (some ⟨w.heap.size, 0, none⟩) 2 2) [(0, 40), (50, 100)] ∧ RdPs W W.heap.size (.slice (some ⟨w.heap.size + 1 + 1 + 1, 0, none⟩) 2 2) [[⟨1, 1⟩], [⟨1, 2⟩]] ∧ Below w.heap.size w W := by
  have hb : Below w.heap.size w W := by rw [← hW]; repeat (first | exact Below.refl _ _ | apply bel_alloc)
  have a0 := heap_alloc_last w (.cells #[.int .i64 0, .int .i64 40, .int .i64 50, .int .i64 100] 23)
  have a1 := heap_alloc_last (w.alloc (.cells #[.int .i64 0, .int .i64 40, .int .i64 50, .int .i64 100] 23)) (.cells #[.int .i64 1, .int .i64 1] 64)
  have a2 := heap_alloc_last ((w.alloc (.cells #[.int .i64 0, .int .i64 40, .int .i64 50, .int .i64 100] 23)).alloc (.cells #[.int .i64 1, .int .i64 1] 64)) (.cells #[.int .i64 1, .int .i64 2] 64)
  have a3 := heap_alloc_last (((w.alloc (.cells #[.int .i64 0, .int .i64 40, .int .i64 50, .int .i64 100] 23)).alloc (.cells #[.int .i64 1, .int .i64 1] 64)).alloc (.cells #[.int .i64 1, .int .i64 2] 64)) (.cells #[.slice (some ⟨w.heap.size + 1, 0, none⟩) 1 1, .slice (some ⟨w.heap.size + 1 + 1, 0, none⟩) 1 1] 26)
  simp only [World.size_alloc] at a1 a2 a3
  have b0 := hpA (hpA (hpA a0 (.cells #[.int .i64 1, .int .i64 1] 64)) (.cells #[.int .i64 1, .int .i64 2] 64)) (.cells #[.slice (some ⟨w.heap.size + 1, 0, none⟩) 1 1, .slice (some ⟨w.heap.size + 1 + 1, 0, none⟩) 1 1] 26)
  have b1 := hpA (hpA a1 (.cells #[.int .i64 1, .int .i64 2] 64)) (.cells #[.slice (some ⟨w.heap.size + 1, 0, none⟩) 1 1, .slice (some ⟨w.heap.size + 1 + 1, 0, none⟩) 1 1] 26)
  have b2 := hpA a2 (.cells #[.slice (some ⟨w.heap.size + 1, 0, none⟩) 1 1, .slice (some ⟨w.heap.size + 1 + 1, 0, none⟩) 1 1] 26)
  rw [hW] at b0 b1 b2 a3
  refine ⟨rd_blk (cs := spsCells [(0, 40), (50, 100)]) b0 rfl (by decide), ⟨[.slice (some ⟨w.heap.size + 1, 0, none⟩) 1 1, .slice (some ⟨w.heap.size + 1 + 1, 0, none⟩) 1 1], rd_blk a3 rfl (by decide), fun i x hx => ?_⟩, hb⟩
  match i, hx with
  | 0, hx =>
    simp only [List.getElem?_cons_zero, Option.some.injEq] at hx
    subst hx
    exact ⟨_, rfl, rd_blk (cs := ndCells [⟨1, 1⟩]) b1 rfl (by decide)⟩
  | 1, hx =>
    simp only [List.getElem?_cons_succ, List.getElem?_cons_zero, Option.some.injEq] at hx
    subst hx
    exact ⟨_, rfl, rd_blk (cs := ndCells [⟨1, 2⟩]) b2 rfl (by decide)⟩
  | j + 2, hx => simp at hx
theorem plank_mem {w W : World} (hW : ((w.alloc (.cells #[.int .i64 2000] 3)).alloc (.cells #[.int .i64 70] 3)).alloc (.cells #[.string (str plankAw.name), .int .i64 40, .int .i64 100, .int .i64 50, .int .i64 0, .slice (some ⟨w.heap.size, 0, none⟩) 1 1, .slice (some ⟨w.heap.size + 1, 0, none⟩) 1 1] 74) = W) :
    RdPr W W.heap.size (.slice (some ⟨w.heap.size + 1 + 1, 0, none⟩) 1 1) [plankAw] ∧ Below w.heap.size w W := by
  have hb : Below w.heap.size w W := by rw [← hW]; repeat (first | exact Below.refl _ _ | apply bel_alloc)
  have a0 := heap_alloc_last w (.cells #[.int .i64 2000] 3)
  have a1 := heap_alloc_last (w.alloc (.cells #[.int .i64 2000] 3)) (.cells #[.int .i64 70] 3)
  have a2 := heap_alloc_last ((w.alloc (.cells #[.int .i64 2000] 3)).alloc (.cells #[.int .i64 70] 3)) (.cells #[.string (str plankAw.name), .int .i64 40, .int .i64 100, .int .i64 50, .int .i64 0, .slice (some ⟨w.heap.size, 0, none⟩) 1 1, .slice (some ⟨w.heap.size + 1, 0, none⟩) 1 1] 74)
  simp only [World.size_alloc] at a1 a2
  have b0 := hpA (hpA a0 (.cells #[.int .i64 70] 3)) (.cells #[.string (str plankAw.name), .int .i64 40, .int .i64 100, .int .i64 50, .int .i64 0, .slice (some ⟨w.heap.size, 0, none⟩) 1 1, .slice (some ⟨w.heap.size + 1, 0, none⟩) 1 1] 74)
  have b1 := hpA a1 (.cells #[.string (str plankAw.name), .int .i64 40, .int .i64 100, .int .i64 50, .int .i64 0, .slice (some ⟨w.heap.size, 0, none⟩) 1 1, .slice (some ⟨w.heap.size + 1, 0, none⟩) 1 1] 74)
  rw [hW] at b0 b1 a2
  refine ⟨⟨[(plankAw, .slice (some ⟨w.heap.size, 0, none⟩) 1 1, .slice (some ⟨w.heap.size + 1, 0, none⟩) 1 1)], rfl, rd_blk (cs := prsCells [(plankAw, .slice (some ⟨w.heap.size, 0, none⟩) 1 1, .slice (some ⟨w.heap.size + 1, 0, none⟩) 1 1)]) a2 rfl (by decide), fun y hy => ?_⟩, hb⟩
  rw [List.mem_singleton.1 hy]
  exact ⟨rd_blk (cs := ints [2000]) b0 rfl (by decide), rd_blk (cs := ints [70]) b1 rfl (by decide)⟩
/-- How memory stands while awake's long line is run. -/
structure AwSt (w W : World) (N : Nat) (nv lv cv rv kv : Value) : Prop where
  n : RdNd W W.heap.size nv nAw
  p : PatAt W N rAw nv
  l : Rd W W.heap.size 5 lv lvAw.length (lfsCells lvAw)
  c : Rd W W.heap.size 4 cv cvAw.length (rcsCells cvAw)
  r : RdNd W W.heap.size rv rowAw
  k : RdPr W W.heap.size kv [plankAw]
  b : Below w.heap.size w W
theorem AwSt.next {w W W' : World} {N : Nat} {nv lv cv rv kv : Value} (h : AwSt w W N nv lv cv rv kv) (hb : Below W.heap.size W W') : AwSt w W' N nv lv cv rv kv :=
  ⟨h.n.next hb, (hb.block N (Array.getElem?_eq_some_iff.1 h.p).1).trans h.p, h.l.next hb, h.c.next hb, h.r.next hb, h.k.next hb, bel_call h.b hb⟩

set_option maxRecDepth 100000 in
set_option maxHeartbeats 4000000 in
theorem awake_any (w : World) (hv : VarsX w) : Calls Tryd.prog 12 #[] w (LawX w) := by
  have HV := Lib.hid hv
  clear hv
  go_enter Tryd.func12, Tryd.ntmps12
  go_wp2_with fail
  refine (parse_any _ w (by decide)).mono ?_
  rintro e w1 ⟨v1, he, hn1, hb1⟩
  rw [show bts _ = tAw from rfl, aw_p1] at he hn1
  subst he
  obtain ⟨A, c, rfl, _, _⟩ := hn1.form
  have HN1 := Lib.hid (show RdNd w1 w1.heap.size (.slice A nAw.length c) nAw from hn1)
  have HB1 := Lib.hid hb1
  clear hn1 hb1
  go_upto_region 2 with fail
  obtain ⟨W1, hW1⟩ : ∃ W1, w1.alloc (.cells #[.int .i64 rAw.xa, .int .i64 rAw.xb, .int .i64 rAw.ya, .int .i64 rAw.yb, .slice A nAw.length c] 28) = W1 := ⟨_, rfl⟩
  have hx1 := bel_alloc (ob := .cells #[.int .i64 rAw.xa, .int .i64 rAw.xb, .int .i64 rAw.ya, .int .i64 rAw.yb, .slice A nAw.length c] 28) (Below.refl w1.heap.size w1)
  have hp1 := heap_alloc_last w1 (.cells #[.int .i64 rAw.xa, .int .i64 rAw.xb, .int .i64 rAw.ya, .int .i64 rAw.yb, .slice A nAw.length c] 28)
  rw [hW1] at hx1 hp1 ⊢
  obtain ⟨N, hN⟩ : ∃ N, w1.heap.size = N := ⟨_, rfl⟩
  rw [hN] at hp1 ⊢
  have HN2 := Lib.hid (HN1.out.next hx1)
  have HP2 := Lib.hid (show PatAt W1 N rAw (.slice A nAw.length c) from hp1)
  have HB2 := Lib.hid (bel_call HB1.out hx1)
  clear hx1 hp1 hN hW1 HN1 HB1
  go_wp2_with fail
  refine (parse_any _ W1 (by decide)).mono ?_
  rintro e w3 ⟨v3, he, hn3, hb⟩
  rw [show bts _ = tBw from rfl, aw_p2] at he hn3
  subst he
  obtain ⟨A3, c3, rfl, _, _⟩ := hn3.form
  have HN3 := Lib.hid (HN2.out.next hb)
  have HP3 := Lib.hid (show PatAt w3 N rAw (.slice A nAw.length c) from (hb.block N (Array.getElem?_eq_some_iff.1 HP2.out).1).trans HP2.out)
  have HB3 := Lib.hid (bel_call HB2.out hb)
  clear hb hn3 HN2 HP2 HB2
  go_upto_region 3 with fail
  obtain ⟨W3, hW3⟩ : ∃ W3, w3.alloc (.cells #[.int .i64 0, .int .i64 0, .int .i64 0, .int .i64 0, .slice A3 0 c3] 28) = W3 := ⟨_, rfl⟩
  have hb := bel_alloc (ob := .cells #[.int .i64 0, .int .i64 0, .int .i64 0, .int .i64 0, .slice A3 0 c3] 28) (Below.refl w3.heap.size w3)
  try simp only [List.length_nil]
  rw [hW3] at hb ⊢
  have HN4 := Lib.hid (HN3.out.next hb)
  have HP4 := Lib.hid (show PatAt W3 N rAw (.slice A nAw.length c) from (hb.block N (Array.getElem?_eq_some_iff.1 HP3.out).1).trans HP3.out)
  have HB4 := Lib.hid (bel_call HB3.out hb)
  clear hb hW3 HN3 HP3 HB3
  obtain ⟨p0, p1, p2, p3, p4⟩ := cells5 HP4.out
  go_wp2_with fail
  refine (leaves_any rAw nAw (.slice A nAw.length c) 4 W3 HN4.out).mono ?_
  rintro e w5 ⟨v5, he, hl5, hb⟩
  rw [aw_l] at he hl5
  subst he
  obtain ⟨A5, c5, rfl, _, _⟩ := Rd.form_ hl5
  have HL5 := Lib.hid hl5
  have HN5 := Lib.hid (HN4.out.next hb)
  have HP5 := Lib.hid (show PatAt w5 N rAw (.slice A nAw.length c) from (hb.block N (Array.getElem?_eq_some_iff.1 HP4.out).1).trans HP4.out)
  have HB5 := Lib.hid (bel_call HB4.out hb)
  clear hb hl5 HN4 HP4 HB4 p0 p1 p2 p3 p4
  obtain ⟨p0, p1, p2, p3, p4⟩ := cells5 HP5.out
  go_wp2_with fail
  refine (cuts_any rAw nAw (.slice A nAw.length c) 4 w5 HN5.out).mono ?_
  rintro e w6 ⟨v6, he, hc6, hb⟩
  rw [aw_c] at he hc6
  subst he
  obtain ⟨A6, c6, rfl, _, _⟩ := Rd.form_ hc6
  have HC6 := Lib.hid hc6
  have HL6 := Lib.hid (HL5.out.next hb)
  have HN6 := Lib.hid (HN5.out.next hb)
  have HP6 := Lib.hid (show PatAt w6 N rAw (.slice A nAw.length c) from (hb.block N (Array.getElem?_eq_some_iff.1 HP5.out).1).trans HP5.out)
  have HB6 := Lib.hid (bel_call HB5.out hb)
  clear hb hc6 HN5 HP5 HB5 HL5 p0 p1 p2 p3 p4
  go_wp2_with fail
  refine (rect_any 0 100 0 50 w6).mono ?_
  rintro e w7 ⟨he, hb⟩
  subst he
  have HC7 := Lib.hid (HC6.out.next hb)
  have HL7 := Lib.hid (HL6.out.next hb)
  have HN7 := Lib.hid (HN6.out.next hb)
  have HP7 := Lib.hid (show PatAt w7 N rAw (.slice A nAw.length c) from (hb.block N (Array.getElem?_eq_some_iff.1 HP6.out).1).trans HP6.out)
  have HB7 := Lib.hid (bel_call HB6.out hb)
  clear hb HN6 HP6 HB6 HL6 HC6
  go_wp2_with fail
  obtain ⟨W7, hW7⟩ : ∃ W, (((w7.alloc (.cells #[.int .i64 0, .int .i64 40, .int .i64 50, .int .i64 100] 23)).alloc (.cells #[.int .i64 1, .int .i64 1] 64)).alloc (.cells #[.int .i64 1, .int .i64 2] 64)).alloc (.cells #[.slice (some ⟨w7.heap.size + 1, 0, none⟩) 1 1, .slice (some ⟨w7.heap.size + 1 + 1, 0, none⟩) 1 1] 26) = W := ⟨_, rfl⟩
  obtain ⟨hsp, hps, hb7⟩ := row_args hW7
  rw [hW7]
  refine (row_any ⟨0, 100, 0, 50⟩ 2 4 [(0, 40), (50, 100)] [[⟨1, 1⟩], [⟨1, 2⟩]] _ _ W7 hsp hps (by decide) (by decide) (by decide)).mono ?_
  rintro e w8 ⟨v8, he, hr8, hb8⟩
  rw [aw_r] at he hr8
  subst he
  obtain ⟨A8, c8, rfl, _, _⟩ := hr8.form
  have hb := bel_call hb7 hb8
  have HR8 := Lib.hid hr8
  have HC8 := Lib.hid (HC7.out.next hb)
  have HL8 := Lib.hid (HL7.out.next hb)
  have HN8 := Lib.hid (HN7.out.next hb)
  have HP8 := Lib.hid (show PatAt w8 N rAw (.slice A nAw.length c) from (hb.block N (Array.getElem?_eq_some_iff.1 HP7.out).1).trans HP7.out)
  have HB8 := Lib.hid (bel_call HB7.out hb)
  clear hb hb7 hb8 hW7 hsp hps hr8 HN7 HP7 HB7 HL7 HC7
  go_wp2_with fail
  obtain ⟨W8, hW8⟩ : ∃ W, ((w8.alloc (.cells #[.int .i64 2000] 3)).alloc (.cells #[.int .i64 70] 3)).alloc (.cells #[.string (str plankAw.name), .int .i64 40, .int .i64 100, .int .i64 50, .int .i64 0, .slice (some ⟨w8.heap.size, 0, none⟩) 1 1, .slice (some ⟨w8.heap.size + 1, 0, none⟩) 1 1] 74) = W := ⟨_, rfl⟩
  obtain ⟨hk8, hb8⟩ := plank_mem hW8
  have HW8 := Lib.hid (show ((w8.alloc (.cells #[.int .i64 2000] 3)).alloc (.cells #[.int .i64 70] 3)).alloc (.cells #[.string ⟨#[112, 108, 97, 110, 107]⟩, .int .i64 40, .int .i64 100, .int .i64 50, .int .i64 0, .slice (some ⟨w8.heap.size, 0, none⟩) 1 1, .slice (some ⟨w8.heap.size + 1, 0, none⟩) 1 1] 74) = W8 from hW8)
  rw [HW8.out]
  obtain ⟨K, hK⟩ : ∃ K, w8.heap.size = K := ⟨_, rfl⟩
  rw [hK] at hk8 ⊢
  have HS8 := Lib.hid (show AwSt w W8 N (.slice A nAw.length c) (.slice A5 lvAw.length c5) (.slice A6 cvAw.length c6) (.slice A8 rowAw.length c8) (.slice (some ⟨K + 1 + 1, 0, none⟩) 1 1) from
    ⟨HN8.out.next hb8, (hb8.block N (Array.getElem?_eq_some_iff.1 HP8.out).1).trans HP8.out, HL8.out.next hb8, HC8.out.next hb8, HR8.out.next hb8, hk8, bel_call HB8.out hb8⟩)
  clear hb8 hW8 hk8 HW8 HN8 HP8 HB8 HL8 HC8 HR8 hK
  refine (rect_any 0 105 0 42 W8).mono ?_
  rintro e w9 ⟨he, hb⟩
  subst he
  have HS9 := Lib.hid (HS8.out.next hb)
  clear hb HS8
  go_wp2_with fail
  refine (rect_any 0 105 46 90 w9).mono ?_
  rintro e w10 ⟨he, hb⟩
  subst he
  have HS10 := Lib.hid (HS9.out.next hb)
  clear hb HS9
  go_wp2_with fail
  obtain ⟨W10, hW10⟩ : ∃ W, w10.alloc (.cells #[.int .i64 0, .int .i64 105, .int .i64 0, .int .i64 42, .int .i64 0, .int .i64 0, .int .i64 105, .int .i64 46, .int .i64 90, .int .i64 (-1)] 59) = W := ⟨_, rfl⟩
  have hb := bel_alloc (ob := .cells #[.int .i64 0, .int .i64 105, .int .i64 0, .int .i64 42, .int .i64 0, .int .i64 0, .int .i64 105, .int .i64 46, .int .i64 90, .int .i64 (-1)] 59) (Below.refl w10.heap.size w10)
  have hx := heap_alloc_last w10 (.cells #[.int .i64 0, .int .i64 105, .int .i64 0, .int .i64 42, .int .i64 0, .int .i64 0, .int .i64 105, .int .i64 46, .int .i64 90, .int .i64 (-1)] 59)
  rw [hW10] at hb hx ⊢
  have hl := rd_blk (len := 2) (size := 5) (cs := lfsCells lvAw) hx rfl (by decide)
  have HS11 := Lib.hid (HS10.out.next hb)
  clear hb hx hW10 HS10
  refine (sameLeaves_any lvAw lvAw _ _ W10 HS11.out.l hl).mono ?_
  rintro e w11 ⟨he, hb⟩
  rw [decide_eq_true rfl] at he
  subst he
  have HS12 := Lib.hid (HS11.out.next hb)
  clear hb hl HS11
  go_wp2_with fail
  refine (rect_any 0 105 42 46 w11).mono ?_
  rintro e w12 ⟨he, hb⟩
  subst he
  have HS13 := Lib.hid (HS12.out.next hb)
  clear hb HS12
  go_wp2_with fail
  obtain ⟨W12, hW12⟩ : ∃ W, w12.alloc (.cells #[.int .i64 0, .int .i64 105, .int .i64 42, .int .i64 46] 25) = W := ⟨_, rfl⟩
  have hb := bel_alloc (ob := .cells #[.int .i64 0, .int .i64 105, .int .i64 42, .int .i64 46] 25) (Below.refl w12.heap.size w12)
  have hx := heap_alloc_last w12 (.cells #[.int .i64 0, .int .i64 105, .int .i64 42, .int .i64 46] 25)
  rw [hW12] at hb hx ⊢
  have hl := rd_blk (len := 1) (size := 4) (cs := rcsCells cvAw) hx rfl (by decide)
  have HS14 := Lib.hid (HS13.out.next hb)
  clear hb hx hW12 HS13
  refine (sameRects_any cvAw cvAw _ _ W12 HS14.out.c hl).mono ?_
  rintro e w13 ⟨he, hb⟩
  rw [decide_eq_true rfl] at he
  subst he
  have HS15 := Lib.hid (HS14.out.next hb)
  clear hb hl HS14
  obtain ⟨p0, p1, p2, p3, p4⟩ := cells5 HS15.out.p
  go_wp2_with fail
  refine (depth_any rAw nAw _ w13 HS15.out.n).mono ?_
  rintro e w14 ⟨he, hb⟩
  rw [aw_d] at he
  subst he
  have HS16 := Lib.hid (HS15.out.next hb)
  clear hb HS15 p0 p1 p2 p3 p4
  go_wp2_with fail
  obtain ⟨W14, hW14⟩ : ∃ W, w14.alloc (.cells #[.int .i64 2, .int .i64 40, .int .i64 1, .int .i64 1, .int .i64 2, .int .i64 46, .int .i64 0, .int .i64 0, .int .i64 1, .int .i64 2] 64) = W := ⟨_, rfl⟩
  have hb := bel_alloc (ob := .cells #[.int .i64 2, .int .i64 40, .int .i64 1, .int .i64 1, .int .i64 2, .int .i64 46, .int .i64 0, .int .i64 0, .int .i64 1, .int .i64 2] 64) (Below.refl w14.heap.size w14)
  have hx := heap_alloc_last w14 (.cells #[.int .i64 2, .int .i64 40, .int .i64 1, .int .i64 1, .int .i64 2, .int .i64 46, .int .i64 0, .int .i64 0, .int .i64 1, .int .i64 2] 64)
  rw [hW14] at hb hx ⊢
  have hl := rd_blk (len := 5) (size := 2) (cs := ndCells rowAw) hx rfl (by decide)
  have HS17 := Lib.hid (HS16.out.next hb)
  clear hb hx hW14 HS16
  refine (sameNodes_any rowAw rowAw _ _ W14 HS17.out.r hl).mono ?_
  rintro e w15 ⟨he, hb⟩
  rw [decide_eq_true rfl] at he
  subst he
  have HS18 := Lib.hid (HS17.out.next hb)
  clear hb hl HS17
  obtain ⟨p0, p1, p2, p3, p4⟩ := cells5 HS18.out.p
  go_wp2_with fail
  refine (format_any rAw nAw _ w15 HS18.out.n (HV.out.next HS18.out.b).1 (HV.out.next HS18.out.b).2).mono ?_
  rintro e w16 ⟨he, hb⟩
  rw [aw_f] at he
  subst he
  have HS19 := Lib.hid (HS18.out.next hb)
  have heq : ((str (tAw ++ [10])).toList == [102, 114, 97, 109, 101, 32, 48, 32, 49, 48, 53, 32, 48, 32, 57, 48, 32, 123, 32, 121, 32, 52, 50, 32, 123, 32, 98, 111, 97, 114, 100, 32, 48, 32, 125, 32, 123, 32, 119, 97, 115, 116, 101, 32, 125, 32, 125, 10]) = true := by kernel_rfl
  clear hb HS18 p0 p1 p2 p3 p4
  obtain ⟨p0, p1, p2, p3, p4⟩ := cells5 HS19.out.p
  go_wp2_with fail
  refine (patCheck_any rAw nAw _ [plankAw] _ 4 w16 HS19.out.n HS19.out.k).mono ?_
  rintro e w17 ⟨he, hb⟩
  rw [aw_k] at he
  subst he
  have HS20 := Lib.hid (HS19.out.next hb)
  clear hb HS19 heq p0 p1 p2 p3 p4
  obtain ⟨p0, p1, p2, p3, p4⟩ := cells5 HS20.out.p
  go_wp2_with fail
  refine (patCheck_any rAw nAw _ [] _ 4 w17 HS20.out.n ⟨[], rfl, Rd.none_, fun y hy => by cases hy⟩).mono ?_
  rintro e w18 ⟨he, hb⟩
  rw [aw_n] at he
  subst he
  have HS21 := Lib.hid (HS20.out.next hb)
  clear hb HS20 p0 p1 p2 p3 p4
  go_wp2_with fail
  go_ret
  exact ⟨rfl, HS21.out.b⟩
