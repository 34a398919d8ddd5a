/-
  The contracts of the reader's methods next, is, skip, number (package schedule).
  The contract of the reader's method stage (package schedule).
  The contract of the reader's method schedule (package schedule).
  The contract of schedule.Parse.
-/
import Derived.Test.YtabdlldkkcjppaaDoorScH
import Derived.Test.YtabdlldkkcjppaaDoorLexF
import Derived.BigRegion
import Derived.Deep.AppendLies
import Derived.Test.YtabdlldkkcjppaaDoorScT
import Derived.Test.YtabdlldkkcjppaaDoorLexE
namespace Saw
def numOk (x : Lx) (least : Int) : Bool := x.kind == 2 && decide (least ≤ x.num)
end Saw
namespace Go.Proofs.YtabdlldkkcjppaaDoor
open Go.RowKit Saw

/-- The reader's block: its lexemes and its place. -/
def IsScR (w : World) (rb : Nat) (lv : Value) (k : Nat) : Prop := w.heap[rb]? = some (.cells #[lv, .int .i64 k] 73 (0, 0))

section
variable {w w' : World} {rb B g k : Nat} {lv : Value}
theorem IsScR.cells (h : IsScR w rb lv k) : w.cell? ⟨rb, 0, none⟩ = some lv ∧ w.cell? ⟨rb, 1, none⟩ = some (.int .i64 k) ∧ w.frozen? ⟨rb, 1, none⟩ = false ∧ rb < w.heap.size := by
  refine ⟨?_, ?_, ?_, (Array.getElem?_eq_some_iff.1 h).1⟩
  · rw [cell_of_row w rb 0 _ _ (0, 0) h]; rfl
  · rw [cell_of_row w rb 1 _ _ (0, 0) h]; rfl
  · simp [World.frozen?, show w.heap[rb]? = _ from h]
theorem IsScR.set (h : IsScR w rb lv k) (k' : Nat) : IsScR (w.setCell ⟨rb, 1, none⟩ (.int .i64 k')) rb lv k' := by
  unfold IsScR
  rw [setCell_eq_setRow w rb 1 _ _ _ _ h, setRow_heap _ _ _ _ _ _ h]
  rfl
theorem IsScR.alloc (h : IsScR w rb lv k) (o : Obj) : IsScR (w.alloc o) rb lv k := (Below.heap_alloc w o rb (Array.getElem?_eq_some_iff.1 h).1).trans h
theorem IsScR.below (h : IsScR w rb lv k) (hb : Below B w w') (hB : rb < B) : IsScR w' rb lv k := (hb.block rb hB).trans h
theorem IsScR.row (h : IsScR w rb lv k) (hne : rb ≠ g) (cs : Array Value) : IsScR (w.setRow g cs) rb lv k := (setRow_other _ _ _ _ hne).trans h
theorem IsScR.setO (h : IsScR w rb lv k) {i : Nat} (hne : rb ≠ g) (v : Value) : IsScR (w.setCell ⟨g, i, none⟩ v) rb lv k := (Below.heap_setCell _ _ _ _ hne).trans h
end
theorem gb_belowS {w w' W : World} {row : Option Nat} (h : w.grownBy W row) (hb : Below W.heap.size W w') : w.grownBy w' row :=
  ⟨hb.os.trans h.os, hb.tape.trans h.tape, hb.output.trans h.output, Nat.le_trans h.size hb.size, fun k hk hne => (hb.block k (Nat.lt_of_lt_of_le hk h.size)).trans (h.block k hk hne)⟩
theorem hpA {w : World} {g : Nat} {o : Obj} (h : w.heap[g]? = some o) (o' : Obj) : (w.alloc o').heap[g]? = some o := (Below.heap_alloc _ _ _ (Array.getElem?_eq_some_iff.1 h).1).trans h
theorem hpS {w : World} {g : Nat} {o : Obj} (h : w.heap[g]? = some o) {g' i : Nat} (hne : g ≠ g') (v : Value) : (w.setCell ⟨g', i, none⟩ v).heap[g]? = some o := (Below.heap_setCell _ _ _ _ hne).trans h
theorem str_eqC (a : List UInt8) (s : ByteArray) : ((str a).toList == s.toList) = (a == bts s) := by rw [toList_bts, toList_bts, bts_str]

def lxVal (x : Lx) : Value := .agg #[.int .i64 x.kind, .string (str x.text), .int .i64 x.num, .int .i64 x.off]
def NextPost (w : World) (x : Lx) (e : Ending) (w' : World) : Prop := e = .returned (.agg #[.int .i64 x.kind, .string (str x.text), .int .i64 x.num, .int .i64 x.off]) ∧ Below w.heap.size w w'

set_option maxRecDepth 100000 in
set_option maxHeartbeats 400000 in
theorem next_sc (w : World) (rb : Nat) (lv : Value) (k : Nat) (xs : List Lx) (hr : IsScR w rb lv k) (hl : Rd w w.heap.size 4 lv xs.length (lxsCells xs)) (hkx : k < xs.length) (hk : xs.length < 1000000) :
    Calls Tryd.prog 44 #[.pointer (some ⟨rb, 0, none⟩)] w (NextPost w (lxAt xs k)) := by
  obtain ⟨c0, c1, f1, hrs⟩ := hr.cells
  obtain ⟨x, hxe⟩ : ∃ x, lxAt xs k = x := ⟨_, rfl⟩
  have hx := lxAt_some hkx
  rw [hxe] at hx
  rw [hxe]
  obtain ⟨_, hml, A, cp, rfl, hcp, hcs⟩ := id hl
  obtain ⟨b, off, rfl, hbs, hcell⟩ := hcs (by omega)
  obtain ⟨k0, k1, k2, k3⟩ := lxs_at xs k x hx
  have d0 := hcell _ _ k0
  have d1 := hcell _ _ k1
  rw [← Nat.add_assoc] at d1
  have d2 := hcell _ _ k2
  rw [← Nat.add_assoc] at d2
  have d3 := hcell _ _ k3
  rw [← Nat.add_assoc] at d3
  unfold maxLen at hml
  have HR := Lib.hid hr
  clear hr hl hx hcell hcs k0 k1 k2 k3 hxe
  go_enter Tryd.func44, Tryd.ntmps44
  go_wp2_with fail
  go_region
  go_wp2_with fail
  refine bodyPost_ret (v := .agg #[.int .i64 x.kind, .string (str x.text), .int .i64 x.num, .int .i64 x.off]) (by simp [results, Tryd.results44, go_sem]) rfl ⟨rfl, ?_⟩
  exact ((Below.refl _ _).alloc (Nat.le_refl _) _).drew

set_option maxRecDepth 100000 in
set_option maxHeartbeats 400000 in
theorem is_sc (w : World) (rb : Nat) (lv : Value) (k : Nat) (xs : List Lx) (kind : Int) (t : ByteArray) (hr : IsScR w rb lv k) (hl : Rd w w.heap.size 4 lv xs.length (lxsCells xs)) (hkx : k < xs.length) (hk : xs.length < 1000000) :
    Calls Tryd.prog 43 #[.pointer (some ⟨rb, 0, none⟩), .int .i64 kind, .string t] w (BoolB (lxIs (lxAt xs k) kind (bts t)) w) := by
  have HN := Lib.hid (next_sc w rb lv k xs hr hl hkx hk)
  clear hr hl
  obtain ⟨x, hxe⟩ : ∃ x, lxAt xs k = x := ⟨_, rfl⟩
  rw [hxe] at HN
  rw [hxe]
  clear hxe
  have ht := str_eqC x.text t
  obtain ⟨m, hm⟩ : ∃ m, (x.text == bts t) = m := ⟨_, rfl⟩
  rw [hm] at ht
  obtain ⟨q, hq⟩ : ∃ q, lxIs x kind (bts t) = q := ⟨_, rfl⟩
  have HLX := Lib.hid (show q = (x.kind == kind && m) by rw [← hq, lxIs, hm])
  rw [hq]
  clear hm hq
  go_enter Tryd.func43, Tryd.ntmps43
  go_wp2_with fail
  refine HN.out.mono ?_
  rintro e w1 ⟨he, hb⟩
  subst he
  have HB := Lib.hid hb
  have hsz := hb.size
  clear hb
  cases hkk : (x.kind == kind) with
  | true =>
    rw [hkk] at HLX
    have hle : q = m := HLX.out
    subst hle
    go_wp2_with fail
    go_ret
    exact ⟨rfl, HB.out.alloc hsz _⟩
  | false =>
    rw [hkk] at HLX
    have hle : q = false := HLX.out
    subst hle
    go_wp2_with fail
    go_ret
    exact ⟨rfl, HB.out.alloc hsz _⟩

def SkipPost (w : World) (rb : Nat) (lv : Value) (k : Nat) (m : Bool) (e : Ending) (w' : World) : Prop :=
  e = .returned (.bool m) ∧ IsScR w' rb lv (if m then k + 1 else k) ∧ w.grownBy w' (some rb)

set_option maxRecDepth 100000 in
set_option maxHeartbeats 400000 in
theorem skip_sc (w : World) (rb : Nat) (lv : Value) (k : Nat) (xs : List Lx) (kind : Int) (t : ByteArray) (hr : IsScR w rb lv k) (hl : Rd w w.heap.size 4 lv xs.length (lxsCells xs)) (hkx : k < xs.length) (hk : xs.length < 1000000) :
    Calls Tryd.prog 58 #[.pointer (some ⟨rb, 0, none⟩), .int .i64 kind, .string t] w (SkipPost w rb lv k (lxIs (lxAt xs k) kind (bts t))) := by
  have HN := Lib.hid (is_sc w rb lv k xs kind t hr hl hkx hk)
  have HR := Lib.hid hr
  have hrb := hr.cells.2.2.2
  clear hr hl
  obtain ⟨m, hm⟩ : ∃ m, lxIs (lxAt xs k) kind (bts t) = m := ⟨_, rfl⟩
  rw [hm] at HN
  rw [hm]
  clear hm
  go_enter Tryd.func58, Tryd.ntmps58
  go_wp2_with fail
  refine HN.out.mono ?_
  rintro e w1 ⟨he, hb⟩
  subst he
  have HR1 := Lib.hid (HR.out.below hb hrb)
  have HG := Lib.hid (gb_belowS (row := some rb) gb_refl hb)
  obtain ⟨c0, c1, f1, hrs⟩ := HR1.out.cells
  clear hb
  cases m with
  | true =>
    go_wp2_with fail
    go_ret
    exact ⟨rfl, HR1.out.set (k + 1), gb_set HG.out _⟩
  | false =>
    go_wp2_with fail
    go_ret
    exact ⟨rfl, HR1.out, HG.out⟩

def NumPost (w : World) (rb : Nat) (lv : Value) (k : Nat) (x : Lx) (m : Bool) (e : Ending) (w' : World) : Prop :=
  e = .returned (.tuple #[.int .i64 (if m then x.num else 0), .bool m]) ∧ IsScR w' rb lv (if m then k + 1 else k) ∧ w.grownBy w' (some rb)

set_option maxRecDepth 100000 in
set_option maxHeartbeats 400000 in
theorem number_sc (w : World) (rb : Nat) (lv : Value) (k : Nat) (xs : List Lx) (least : Int) (hr : IsScR w rb lv k) (hl : Rd w w.heap.size 4 lv xs.length (lxsCells xs)) (hkx : k < xs.length) (hk : xs.length < 1000000) :
    Calls Tryd.prog 59 #[.pointer (some ⟨rb, 0, none⟩), .int .i64 least] w (NumPost w rb lv k (lxAt xs k) (numOk (lxAt xs k) least)) := by
  have HN := Lib.hid (next_sc w rb lv k xs hr hl hkx hk)
  have HR := Lib.hid hr
  have hrb := hr.cells.2.2.2
  clear hr hl
  obtain ⟨x, hxe⟩ : ∃ x, lxAt xs k = x := ⟨_, rfl⟩
  rw [hxe] at HN
  rw [hxe]
  clear hxe
  obtain ⟨m, hm⟩ : ∃ m, numOk x least = m := ⟨_, rfl⟩
  rw [hm]
  have HM := Lib.hid hm
  clear hm
  go_enter Tryd.func59, Tryd.ntmps59
  go_wp2_with fail
  refine HN.out.mono ?_
  rintro e w1 ⟨he, hb⟩
  subst he
  have HR1 := Lib.hid (HR.out.below hb hrb)
  have HG := Lib.hid (gb_belowS (row := some rb) gb_refl hb)
  obtain ⟨c0, c1, f1, hrs⟩ := HR1.out.cells
  clear hb
  by_cases hk2 : x.kind = 2
  · have hkb : (x.kind != 2) = false := by rw [bne_eq_false_iff_eq]; exact hk2
    by_cases hn : x.num < least
    · have hm : m = false := by rw [← HM.out, numOk, show decide (least ≤ x.num) = false by rw [decide_eq_false_iff_not]; omega, Bool.and_false]
      subst hm
      clear hk2
      go_wp2_with fail
      go_ret2
      exact ⟨rfl, HR1.out.alloc _, gb_alloc HG.out _⟩
    · have hm : m = true := by rw [← HM.out, numOk, hk2, show decide (least ≤ x.num) = true by rw [decide_eq_true_iff]; omega]; rfl
      subst hm
      clear hk2
      go_wp2_with fail
      go_ret2
      exact ⟨rfl, (HR1.out.set (k + 1)).alloc _, gb_alloc (gb_set HG.out _) _⟩
  · have hkb : (x.kind != 2) = true := by rw [bne_iff_ne]; exact hk2
    have hm : m = false := by rw [← HM.out, numOk, show (x.kind == 2) = false by rw [beq_eq_false_iff_ne]; exact hk2, Bool.false_and]
    subst hm
    clear hk2
    go_wp2_with fail
    go_ret2
    exact ⟨rfl, HR1.out.alloc _, gb_alloc HG.out _⟩

end Go.Proofs.YtabdlldkkcjppaaDoor

namespace Saw
theorem nextS_failed {xs : List Lx} {s : Nat × Bool} (h : s.2 = true) (p : Int × List UInt8) : nextS xs s p = s := by
  obtain ⟨k, f⟩ := s
  simp only at h
  subst h
  rfl
theorem nextW_t {xs : List Lx} {j : Nat} {kind : Int} {t : List UInt8} (_ht : t ≠ []) (h : lxIs (lxAt xs j) kind t = true) : nextS xs (j, false) (kind, t) = (j + 1, false) := by
  rw [nextS, if_pos]
  rw [lxIs, Bool.and_eq_true] at h
  simp [okS, lxFits, h.1, h.2]
theorem nextW_f {xs : List Lx} {j : Nat} {kind : Int} {t : List UInt8} (ht : t ≠ []) (h : lxIs (lxAt xs j) kind t = false) : nextS xs (j, false) (kind, t) = (j, true) := by
  rw [nextS, if_neg]
  have h0 : (t == []) = false := by cases t with | nil => exact absurd rfl ht | cons a r => rfl
  simpa [okS, lxFits, lxIs, h0] using h
theorem okW {xs : List Lx} {j : Nat} {kind : Int} {t : List UInt8} (ht : t ≠ []) : okS xs (j, false) (kind, t) = lxIs (lxAt xs j) kind t := by
  have h0 : (t == []) = false := by cases t with | nil => exact absurd rfl ht | cons a r => rfl
  simp [okS, lxFits, lxIs, h0]
theorem nextN_t {xs : List Lx} {j : Nat} (h : numOk (lxAt xs j) 0 = true) : nextS xs (j, false) (2, []) = (j + 1, false) ∧ lexS xs (j, false) (2, []) = lxAt xs j := by
  rw [numOk, Bool.and_eq_true] at h
  have ho : okS xs (j, false) (2, []) = true := by simp [okS, lxFits, h.1]
  rw [nextS, lexS, if_pos ho, if_pos ho]
  exact ⟨rfl, rfl⟩
theorem nextN_f {xs : List Lx} (hn : ∀ x ∈ xs, 0 ≤ x.num) {j : Nat} (hj : j < xs.length) (h : numOk (lxAt xs j) 0 = false) : nextS xs (j, false) (2, []) = (j, true) := by
  have h0 := hn _ (List.mem_of_getElem? (lxAt_some hj))
  rw [numOk, show decide (0 ≤ (lxAt xs j).num) = true by rw [decide_eq_true_iff]; exact h0, Bool.and_true] at h
  rw [nextS, if_neg]
  simpa [okS, lxFits] using h
theorem part_t {xs : List Lx} {j : Nat} {w : List UInt8} (hw : w ≠ []) (h : lxIs (lxAt xs j) 1 w = true) (h2 : numOk (lxAt xs (j + 1)) 1 = true) : partS xs (j, false) w = ((lxAt xs (j + 1)).num, (j + 2, false)) ∧ (lxAt xs (j + 1)).num ≠ 0 := by
  rw [numOk, Bool.and_eq_true, beq_iff_eq, decide_eq_true_iff] at h2
  rw [partS, if_pos (by rw [okW hw]; exact h), if_pos h2]
  exact ⟨rfl, by omega⟩
theorem part_b {xs : List Lx} {j : Nat} {w : List UInt8} (hw : w ≠ []) (h : lxIs (lxAt xs j) 1 w = true) (h2 : numOk (lxAt xs (j + 1)) 1 = false) : partS xs (j, false) w = (0, (j + 1, true)) := by
  have h3 : ¬ ((lxAt xs (j + 1)).kind = 2 ∧ 1 ≤ (lxAt xs (j + 1)).num) := fun h4 => by
    rw [numOk, beq_iff_eq.2 h4.1, decide_eq_true_iff.2 h4.2] at h2; cases h2
  rw [partS, if_pos (by rw [okW hw]; exact h), if_neg h3]
theorem part_f {xs : List Lx} {j : Nat} {w : List UInt8} (hw : w ≠ []) (h : lxIs (lxAt xs j) 1 w = false) : partS xs (j, false) w = (0, (j, false)) := by
  rw [partS, if_neg (by rw [okW hw, h]; decide)]
theorem partS_bad (xs : List Lx) (j : Nat) (w : List UInt8) : partS xs (j, true) w = (0, (j, true)) := by
  rw [partS, if_neg (by simp [okS])]
theorem stg3_bad {xs : List Lx} {s : Nat × Bool} {j : Nat} (h : stg3 xs s = (j, true)) : (stgS xs s).2 = (j, true) := by
  show stg8 xs s = _
  unfold stg8 stg7 stg6 stg5 stg4
  rw [h]
  simp only [nextS_failed]
theorem stg_bad1 {xs : List Lx} {s : Nat × Bool} {j : Nat} (h : partS xs s belowW = (0, (j, true))) : (stgS xs s).2 = (j, true) := by
  refine stg3_bad ?_
  unfold stg3 stg2 stg1
  rw [h, partS_bad]
  simp
theorem stg_bad2 {xs : List Lx} {s : Nat × Bool} {a : Int} {k1 j : Nat} (h1 : partS xs s belowW = (a, (k1, false))) (h : partS xs (k1, false) forW = (0, (j, true))) : (stgS xs s).2 = (j, true) := by
  refine stg3_bad ?_
  unfold stg3 stg2 stg1
  rw [h1, h]
  simp
theorem stg_bad3 {xs : List Lx} {s : Nat × Bool} {k1 j : Nat} (h1 : partS xs s belowW = (0, (k1, false))) (h : partS xs (k1, false) forW = (0, (j, false))) : (stgS xs s).2 = (j, true) := by
  refine stg3_bad ?_
  unfold stg3 stg2 stg1
  rw [h1, h]
  simp
theorem stg3_ok {xs : List Lx} {s : Nat × Bool} {a b : Int} {k1 j : Nat} (h1 : partS xs s belowW = (a, (k1, false))) (h : partS xs (k1, false) forW = (b, (j, false))) (h0 : ¬ (a = 0 ∧ b = 0)) : stg3 xs s = (j, false) := by
  unfold stg3 stg2 stg1
  rw [h1, h]
  simp only [if_neg h0]
theorem stg4_bad {xs : List Lx} {s : Nat × Bool} {j : Nat} (h3 : stg3 xs s = (j, false)) (h : lxIs (lxAt xs j) 1 atW = false) : (stgS xs s).2 = (j, true) := by
  show stg8 xs s = _
  unfold stg8 stg7 stg6 stg5 stg4
  rw [h3, nextW_f (by decide) h]
  simp only [nextS_failed]
theorem stg4_ok {xs : List Lx} {s : Nat × Bool} {j : Nat} (h3 : stg3 xs s = (j, false)) (h : lxIs (lxAt xs j) 1 atW = true) : stg4 xs s = (j + 1, false) := by
  rw [stg4, h3, nextW_t (by decide) h]
theorem stg5_bad {xs : List Lx} (hn : ∀ x ∈ xs, 0 ≤ x.num) {s : Nat × Bool} {j : Nat} (h4 : stg4 xs s = (j, false)) (hj : j < xs.length) (h : numOk (lxAt xs j) 0 = false) : (stgS xs s).2 = (j, true) := by
  show stg8 xs s = _
  unfold stg8 stg7 stg6 stg5
  rw [h4, nextN_f hn hj h]
  simp only [nextS_failed]
theorem stg5_ok {xs : List Lx} {s : Nat × Bool} {j : Nat} (h4 : stg4 xs s = (j, false)) (h : numOk (lxAt xs j) 0 = true) : stg5 xs s = (j + 1, false) ∧ (stgS xs s).1.temp = (lxAt xs j).num := by
  rw [stg5, h4, (nextN_t h).1]
  refine ⟨rfl, ?_⟩
  show (lexS xs (stg4 xs s) (2, [])).num = _
  rw [h4, (nextN_t h).2]
theorem stg6_bad {xs : List Lx} {s : Nat × Bool} {j : Nat} (h5 : stg5 xs s = (j, false)) (h : lxIs (lxAt xs j) 3 [45] = false) : (stgS xs s).2 = (j, true) := by
  show stg8 xs s = _
  unfold stg8 stg7 stg6
  rw [h5, nextW_f (by decide) h]
  simp only [nextS_failed]
theorem stg6_ok {xs : List Lx} {s : Nat × Bool} {j : Nat} (h5 : stg5 xs s = (j, false)) (h : lxIs (lxAt xs j) 3 [45] = true) : stg6 xs s = (j + 1, false) := by
  rw [stg6, h5, nextW_t (by decide) h]
theorem stg7_bad {xs : List Lx} (hn : ∀ x ∈ xs, 0 ≤ x.num) {s : Nat × Bool} {j : Nat} (h6 : stg6 xs s = (j, false)) (hj : j < xs.length) (h : numOk (lxAt xs j) 0 = false) : (stgS xs s).2 = (j, true) := by
  show stg8 xs s = _
  unfold stg8 stg7
  rw [h6, nextN_f hn hj h]
  simp only [nextS_failed]
theorem stg7_ok {xs : List Lx} {s : Nat × Bool} {j : Nat} (h6 : stg6 xs s = (j, false)) (h : numOk (lxAt xs j) 0 = true) : stg7 xs s = (j + 1, false) ∧ (stgS xs s).1.dep = (lxAt xs j).num := by
  rw [stg7, h6, (nextN_t h).1]
  refine ⟨rfl, ?_⟩
  show (lexS xs (stg6 xs s) (2, [])).num = _
  rw [h6, (nextN_t h).2]
theorem stg8_of {xs : List Lx} {s : Nat × Bool} {j : Nat} (h7 : stg7 xs s = (j, false)) : (stgS xs s).2 = if lxIs (lxAt xs j) 3 [59] then (j + 1, false) else (j, true) := by
  show stg8 xs s = _
  rw [stg8, h7]
  cases h : lxIs (lxAt xs j) 3 [59] with
  | true => rw [nextW_t (by decide) h]; rfl
  | false => rw [nextW_f (by decide) h]; rfl
theorem stg_parts {xs : List Lx} {s : Nat × Bool} {a b : Int} {k1 j : Nat} (h1 : partS xs s belowW = (a, (k1, false))) (h : partS xs (k1, false) forW = (b, (j, false))) : (stgS xs s).1.below = a ∧ (stgS xs s).1.ticks = b := by
  refine ⟨?_, ?_⟩
  · show (partS xs s belowW).1 = a
    rw [h1]
  · show (partS xs (stg1 xs s) forW).1 = b
    rw [stg1, h1, h]
end Saw
namespace Go.Proofs.YtabdlldkkcjppaaDoor
open Go.RowKit Saw

/-- How memory stands while a stage is read: the reader, the block of the result, the block of the stage. -/
def SgSt (w W : World) (rb : Nat) (lv : Value) (k : Nat) (z x : Stg) : Prop :=
  IsScR W rb lv k ∧ w.grownBy W (some rb) ∧ W.heap[w.heap.size]? = some (.cells (stgCells z).toArray 52 (0, 0)) ∧ W.heap[w.heap.size + 1]? = some (.cells (stgCells x).toArray 52 (0, 0)) ∧ rb < w.heap.size
section
variable {w W W' : World} {rb k k' : Nat} {lv : Value} {z x : Stg}
theorem SgSt.gb (h : SgSt w W rb lv k z x) (hr : IsScR W' rb lv k') (hg : W.grownBy W' (some rb)) : SgSt w W' rb lv k' z x := by
  obtain ⟨h1, h2, h3, h4, h5⟩ := h
  exact ⟨hr, gb_trans h2 hg, (hg.block _ (Array.getElem?_eq_some_iff.1 h3).1 (fun e => by injection e; omega)).trans h3, (hg.block _ (Array.getElem?_eq_some_iff.1 h4).1 (fun e => by injection e; omega)).trans h4, h5⟩
theorem SgSt.drew (h : SgSt w W rb lv k z x) : SgSt w W.drew rb lv k z x := ⟨h.1, gb_drew h.2.1, h.2.2.1, h.2.2.2⟩
theorem SgSt.lt (h : SgSt w W rb lv k z x) : w.heap.size + 1 < W.heap.size := (Array.getElem?_eq_some_iff.1 h.2.2.2.1).1
theorem SgSt.set (h : SgSt w W rb lv k z x) (y : Stg) {j : Nat} {v : Value} (hy : (stgCells x).toArray.setIfInBounds j v = (stgCells y).toArray) : SgSt w (W.setCell ⟨w.heap.size + 1, j, none⟩ v) rb lv k z y := by
  obtain ⟨h1, h2, h3, h4, h5⟩ := h
  refine ⟨h1.setO (by omega) _, gb_setOther h2 (by omega) _, hpS h3 (by omega) _, ?_, h5⟩
  rw [setCell_eq_setRow W _ j _ _ _ _ h4, setRow_heap _ _ _ _ _ _ h4, hy]
theorem SgSt.setZ (h : SgSt w W rb lv k z x) (y : Stg) {j : Nat} {v : Value} (hy : (stgCells z).toArray.setIfInBounds j v = (stgCells y).toArray) : SgSt w (W.setCell ⟨w.heap.size, j, none⟩ v) rb lv k y x := by
  obtain ⟨h1, h2, h3, h4, h5⟩ := h
  refine ⟨h1.setO (by omega) _, gb_setOther h2 (by omega) _, ?_, hpS h4 (by omega) _, h5⟩
  rw [setCell_eq_setRow W _ j _ _ _ _ h3, setRow_heap _ _ _ _ _ _ h3, hy]
theorem SgSt.put (h : SgSt w W rb lv k z x) (y : Stg) : SgSt w ((((W.setCell ⟨w.heap.size, 0, none⟩ (.int .i64 y.below)).setCell ⟨w.heap.size, 1, none⟩ (.int .i64 y.ticks)).setCell ⟨w.heap.size, 2, none⟩ (.int .i64 y.temp)).setCell ⟨w.heap.size, 3, none⟩ (.int .i64 y.dep)) rb lv k y x := by
  refine SgSt.setZ (z := ⟨y.below, y.ticks, y.temp, z.dep⟩) ?_ y rfl
  refine SgSt.setZ (z := ⟨y.below, y.ticks, z.temp, z.dep⟩) ?_ _ rfl
  refine SgSt.setZ (z := ⟨y.below, z.ticks, z.temp, z.dep⟩) ?_ _ rfl
  exact SgSt.setZ h _ rfl
theorem SgSt.cell (h : SgSt w W rb lv k z x) (j : Nat) (v : Value) (hv : (stgCells x).toArray[j]? = some v) : W.cell? ⟨w.heap.size + 1, j, none⟩ = some v := by
  rw [cell_of_row W _ j _ _ (0, 0) h.2.2.2.1]; exact hv
theorem SgSt.cellZ (h : SgSt w W rb lv k z x) (j : Nat) (v : Value) (hv : (stgCells z).toArray[j]? = some v) : W.cell? ⟨w.heap.size, j, none⟩ = some v := by
  rw [cell_of_row W _ j _ _ (0, 0) h.2.2.1]; exact hv
theorem SgSt.frozen (h : SgSt w W rb lv k z x) (j : Nat) : W.frozen? ⟨w.heap.size + 1, j, none⟩ = false := by simp [World.frozen?, h.2.2.2.1]
theorem SgSt.frozenZ (h : SgSt w W rb lv k z x) (j : Nat) : W.frozen? ⟨w.heap.size, j, none⟩ = false := by simp [World.frozen?, h.2.2.1]
theorem SgSt.all (h : SgSt w W rb lv k z x) : (W.cell? ⟨w.heap.size + 1, 0, none⟩ = some (.int .i64 x.below) ∧ W.cell? ⟨w.heap.size + 1, 1, none⟩ = some (.int .i64 x.ticks) ∧ W.cell? ⟨w.heap.size + 1, 2, none⟩ = some (.int .i64 x.temp) ∧ W.cell? ⟨w.heap.size + 1, 3, none⟩ = some (.int .i64 x.dep)) ∧
    (W.cell? ⟨w.heap.size, 0, none⟩ = some (.int .i64 z.below) ∧ W.cell? ⟨w.heap.size, 1, none⟩ = some (.int .i64 z.ticks) ∧ W.cell? ⟨w.heap.size, 2, none⟩ = some (.int .i64 z.temp) ∧ W.cell? ⟨w.heap.size, 3, none⟩ = some (.int .i64 z.dep)) ∧
    (W.frozen? ⟨w.heap.size, 0, none⟩ = false ∧ W.frozen? ⟨w.heap.size, 1, none⟩ = false ∧ W.frozen? ⟨w.heap.size, 2, none⟩ = false ∧ W.frozen? ⟨w.heap.size, 3, none⟩ = false) :=
  ⟨⟨h.cell 0 _ rfl, h.cell 1 _ rfl, h.cell 2 _ rfl, h.cell 3 _ rfl⟩, ⟨h.cellZ 0 _ rfl, h.cellZ 1 _ rfl, h.cellZ 2 _ rfl, h.cellZ 3 _ rfl⟩, h.frozenZ 0, h.frozenZ 1, h.frozenZ 2, h.frozenZ 3⟩
end
theorem skip_sg {w W : World} {rb : Nat} {lv : Value} {k : Nat} {z x : Stg} {xs : List Lx} (hl : Rd w rb 4 lv xs.length (lxsCells xs)) (hxl : xs.length < 1000000) (hst : SgSt w W rb lv k z x) (hkx : k < xs.length) (kind : Int) (t : ByteArray) (p : List UInt8) (hp : bts t = p) :
    Calls Tryd.prog 58 #[.pointer (some ⟨rb, 0, none⟩), .int .i64 kind, .string t] W fun e W' => e = .returned (.bool (lxIs (lxAt xs k) kind p)) ∧ SgSt w W' rb lv (if lxIs (lxAt xs k) kind p then k + 1 else k) z x := by
  subst hp
  refine (skip_sc W rb lv k xs kind t hst.1 ((hl.gb hst.2.1 (Nat.le_refl _) (by have := hst.2.2.2.2; omega)).more (by have := hst.lt; have := hst.2.2.2.2; omega)) hkx hxl).mono ?_
  rintro e W' ⟨he, hr, hg⟩
  exact ⟨he, hst.gb hr hg⟩
theorem number_sg {w W : World} {rb : Nat} {lv : Value} {k : Nat} {z x : Stg} {xs : List Lx} (hl : Rd w rb 4 lv xs.length (lxsCells xs)) (hxl : xs.length < 1000000) (hst : SgSt w W rb lv k z x) (hkx : k < xs.length) (least : Int) :
    Calls Tryd.prog 59 #[.pointer (some ⟨rb, 0, none⟩), .int .i64 least] W fun e W' => e = .returned (.tuple #[.int .i64 (if numOk (lxAt xs k) least then (lxAt xs k).num else 0), .bool (numOk (lxAt xs k) least)]) ∧ SgSt w W' rb lv (if numOk (lxAt xs k) least then k + 1 else k) z x := by
  refine (number_sc W rb lv k xs least hst.1 ((hl.gb hst.2.1 (Nat.le_refl _) (by have := hst.2.2.2.2; omega)).more (by have := hst.lt; have := hst.2.2.2.2; omega)) hkx hxl).mono ?_
  rintro e W' ⟨he, hr, hg⟩
  exact ⟨he, hst.gb hr hg⟩
def WordsS (w : World) : Prop := w.rangeAt 0 0 scWordCells ∧ 0 < w.heap.size
theorem sg_word {w W : World} {rb : Nat} {lv : Value} {k : Nat} {z x : Stg} (hv : WordsS w) (hrg : 0 < rb) (hst : SgSt w W rb lv k z x) (j : Nat) (v : Value) (hj : scWordCells[j]? = some v) : W.cell? ⟨0, j, none⟩ = some v := by
  have h9 := hv.1 j v hj
  rw [Nat.zero_add] at h9
  exact (World.cell?_of_block (a := ⟨0, j, none⟩) (hst.2.1.block _ hv.2 (fun e => by injection e with e; rw [← e] at hrg; exact absurd hrg (Nat.lt_irrefl _)))).trans h9
theorem stg_ext {x y : Stg} (h1 : x.below = y.below) (h2 : x.ticks = y.ticks) (h3 : x.temp = y.temp) (h4 : x.dep = y.dep) : x = y := by cases x; cases y; simp_all

def StagePost (w : World) (rb : Nat) (lv : Value) (R : Stg × (Nat × Bool)) (e : Ending) (w' : World) : Prop :=
  ∃ x : Stg, e = .returned (.tuple #[.agg #[.int .i64 x.below, .int .i64 x.ticks, .int .i64 x.temp, .int .i64 x.dep], .bool (!R.2.2)]) ∧ (R.2.2 = false → x = R.1) ∧ IsScR w' rb lv R.2.1 ∧ w.grownBy w' (some rb)

set_option maxRecDepth 100000 in
set_option maxHeartbeats 2000000 in
theorem stage_sc (w : World) (rb : Nat) (lv : Value) (k : Nat) (xs : List Lx) (hr : IsScR w rb lv k) (hl : Rd w rb 4 lv xs.length (lxsCells xs)) (hkx : k < xs.length) (hxm : xs.length < 1000000) (hend : LxEnds xs) (hnn : ∀ x ∈ xs, 0 ≤ x.num) (hv : WordsS w) (hrg : 0 < rb) :
    Calls Tryd.prog 60 #[.pointer (some ⟨rb, 0, none⟩)] w (StagePost w rb lv (stgS xs (k, false))) := by
  obtain ⟨R, hR⟩ : ∃ R, stgS xs (k, false) = R := ⟨_, rfl⟩
  rw [hR]
  have HR := Lib.hid hR
  have HL := Lib.hid hl
  have HEND := Lib.hid hend
  have HNN := Lib.hid hnn
  have HV := Lib.hid hv
  have hw0 : w.cell? ⟨0, 0, none⟩ = some (.string (str belowW)) := hv.1 0 _ rfl
  have hg0 := hv.2
  have hrb : rb < w.heap.size := hr.cells.2.2.2
  have HS0 := Lib.hid (show SgSt w ((w.alloc (.cells #[.int .i64 0, .int .i64 0, .int .i64 0, .int .i64 0] 52)).alloc (.cells #[.int .i64 0, .int .i64 0, .int .i64 0, .int .i64 0] 52)) rb lv k (⟨0, 0, 0, 0⟩ : Stg) (⟨0, 0, 0, 0⟩ : Stg) from
    ⟨(hr.alloc _).alloc _, gb_alloc (gb_alloc gb_refl _) _, hpA (heap_alloc_last w _) _, by have h9 := heap_alloc_last (w.alloc (.cells #[.int .i64 0, .int .i64 0, .int .i64 0, .int .i64 0] 52)) (.cells #[.int .i64 0, .int .i64 0, .int .i64 0, .int .i64 0] 52); rw [World.size_alloc] at h9; exact h9, hrb⟩)
  clear hr hl hend hnn hv hR
  go_enter Tryd.func60, Tryd.ntmps60
  go_wp2_with fail
  refine (skip_sg HL.out hxm HS0.out (by omega) 1 _ belowW (bts_str _)).mono ?_
  rintro e wP ⟨he, hstP⟩
  have HSP := Lib.hid hstP
  clear hstP hw0
  cases hmP : lxIs (lxAt xs (k)) 1 belowW with
  | false =>
    rw [hmP] at he HSP
    subst he
    rw [if_neg (by decide)] at HSP
    have HP1 := Lib.hid (part_f (by decide) hmP)
    clear hmP
    have f9 := sg_word HV.out hrg HSP.out 1 _ rfl
    go_wp2_with fail
    clear f9
    refine (skip_sg HL.out hxm HSP.out (by omega) 1 _ forW (bts_str _)).mono ?_
    rintro e wQ ⟨he, hstQ⟩
    have HSQ := Lib.hid hstQ
    clear hstQ
    cases hmQ : lxIs (lxAt xs (k)) 1 forW with
    | false =>
      rw [hmQ] at he HSQ
      subst he
      rw [if_neg (by decide)] at HSQ
      have HP2 := Lib.hid (part_f (by decide) hmQ)
      clear hmQ
      have f0 := HSQ.out.cell 0 (.int .i64 (0)) rfl
      have f1 := HSQ.out.cell 1 (.int .i64 (0)) rfl
      have hlt9 := HSQ.out.lt
      have hbad := stg_bad3 HP1.out HP2.out
      rw [HR.out] at hbad
      obtain ⟨RX, RS⟩ := R
      simp only at hbad
      subst hbad
      have HN := Lib.hid HSQ.out.2.2.2.1
      have HZ := Lib.hid HSQ.out.2.2.1
      have H4 : Hid ((stgCells (⟨0, 0, 0, 0⟩ : Stg)).toArray.size = 4) := Lib.hid rfl
      have HQR := Lib.hid (setRow_heap _ _ _ (stgCells (⟨0, 0, 0, 0⟩ : Stg)).toArray _ _ HSQ.out.2.2.1)
      go_wp2_with (first
        | ((with_reducible refine stg_load (w.heap.size + 1) 0 (⟨0, 0, 0, 0⟩ : Stg) ?hx (rangeAt_block HN.out) ?_); (case hx => rfl))
        | ((with_reducible refine stg_put w.heap.size (⟨0, 0, 0, 0⟩ : Stg) ?hx ?hy HZ.out H4 ?_); (case hx => rfl); (case hy => rfl)))
      refine bodyPost_ret (v := .tuple #[.agg (stgCells (⟨0, 0, 0, 0⟩ : Stg)).toArray, .bool false]) ?_ rfl ⟨(⟨0, 0, 0, 0⟩ : Stg), rfl, nofun, ?_, ?_⟩
      · exact results_cell2 Tryd.results60 _ _ w.heap.size 0 (stgCells (⟨0, 0, 0, 0⟩ : Stg)) rfl (rangeAt_block HQR.out) Tryd.underlying52 rfl stg_info _ rfl
      · exact HSQ.out.1.row (by omega) _
      · exact gb_setRow HSQ.out.2.1 (.inr (Nat.le_refl _)) _
    | true =>
      rw [hmQ] at he HSQ
      subst he
      rw [if_pos rfl] at HSQ
      have hkQ : k + 1 < xs.length := lxEnds_next HEND.out (by omega) (by have h9 := hmQ; rw [lxIs, Bool.and_eq_true, beq_iff_eq] at h9; rw [h9.1]; decide)
      have HMQ := Lib.hid hmQ
      clear hmQ
      go_wp2_with fail
      refine (number_sg HL.out hxm HSQ.out hkQ 1).mono ?_
      rintro e wQ2 ⟨he, hstQ⟩
      have HSQ2 := Lib.hid hstQ
      clear hstQ
      obtain ⟨yQ, hyQ⟩ : ∃ y, lxAt xs (k + 1) = y := ⟨_, rfl⟩
      cases hnQ : numOk (lxAt xs (k + 1)) 1 with
      | false =>
        rw [hnQ] at he HSQ2
        subst he
        rw [if_neg (by decide)] at HSQ2
        have HSQ3 := Lib.hid (HSQ2.out.set (j := 1) (v := .int .i64 0) (⟨0, 0, 0, 0⟩ : Stg) rfl)
        have f0 := HSQ2.out.frozen 1
        have f1 := HSQ2.out.cell 1 (.int .i64 0) rfl
        have hlt9 := HSQ2.out.lt
        have hbad := stg_bad2 HP1.out (part_b (by decide) HMQ.out hnQ)
        rw [HR.out] at hbad
        obtain ⟨RX, RS⟩ := R
        simp only at hbad
        subst hbad
        have HN := Lib.hid HSQ3.out.2.2.2.1
        have HZ := Lib.hid HSQ3.out.2.2.1
        have H4 : Hid ((stgCells (⟨0, 0, 0, 0⟩ : Stg)).toArray.size = 4) := Lib.hid rfl
        have HQR := Lib.hid (setRow_heap _ _ _ (stgCells (⟨0, 0, 0, 0⟩ : Stg)).toArray _ _ HSQ3.out.2.2.1)
        go_wp2_with (first
          | ((with_reducible refine stg_load (w.heap.size + 1) 0 (⟨0, 0, 0, 0⟩ : Stg) ?hx (rangeAt_block HN.out) ?_); (case hx => rfl))
          | ((with_reducible refine stg_put w.heap.size (⟨0, 0, 0, 0⟩ : Stg) ?hx ?hy HZ.out H4 ?_); (case hx => rfl); (case hy => rfl)))
        refine bodyPost_ret (v := .tuple #[.agg (stgCells (⟨0, 0, 0, 0⟩ : Stg)).toArray, .bool false]) ?_ rfl ⟨(⟨0, 0, 0, 0⟩ : Stg), rfl, nofun, ?_, ?_⟩
        · exact results_cell2 Tryd.results60 _ _ w.heap.size 0 (stgCells (⟨0, 0, 0, 0⟩ : Stg)) rfl (rangeAt_block HQR.out) Tryd.underlying52 rfl stg_info _ rfl
        · exact HSQ3.out.1.row (by omega) _
        · exact gb_setRow HSQ3.out.2.1 (.inr (Nat.le_refl _)) _
      | true =>
        rw [hnQ, hyQ] at he
        rw [hnQ] at HSQ2
        subst he
        rw [if_pos rfl] at HSQ2
        obtain ⟨hqQ, hzQ⟩ := part_t (by decide) HMQ.out hnQ
        have hkQ2 : k + 1 + 1 < xs.length := lxEnds_next HEND.out hkQ (by have h9 := hnQ; rw [numOk, Bool.and_eq_true, beq_iff_eq] at h9; rw [h9.1]; decide)
        rw [hyQ] at hqQ hzQ
        have HP2 := Lib.hid hqQ
        have HSQ3 := Lib.hid (HSQ2.out.set (j := 1) (v := .int .i64 yQ.num) (⟨0, yQ.num, 0, 0⟩ : Stg) rfl)
        have f0 := HSQ2.out.frozen 1
        have f1 := HSQ2.out.cell 1 (.int .i64 0) rfl
        have hlt9 := HSQ2.out.lt
        have HZQ := Lib.hid hzQ
        have hzbQ : (yQ.num == 0) = false := by rw [beq_eq_false_iff_ne]; exact hzQ
        clear hqQ hnQ hyQ hzQ
        have f8 := sg_word HV.out hrg HSQ2.out 2 _ rfl
        have f7 := HSQ2.out.cell 0 (.int .i64 (0)) rfl
        go_wp2_with fail
        clear f0 f1 hlt9 f8 f7
        have H3 := Lib.hid (stg3_ok HP1.out HP2.out (by simp only [not_and]; intro _ h; exact absurd h HZQ.out))
        refine (skip_sg HL.out hxm HSQ3.out (by omega) 1 _ atW (bts_str _)).mono ?_
        rintro e wA ⟨he, hstA⟩
        have HSA := Lib.hid hstA
        clear hstA
        cases hmA : lxIs (lxAt xs (k + 1 + 1)) 1 atW with
        | false =>
          rw [hmA] at he HSA
          subst he
          rw [if_neg (by decide)] at HSA
          have hbad := stg4_bad H3.out hmA
          rw [HR.out] at hbad
          obtain ⟨RX, RS⟩ := R
          simp only at hbad
          subst hbad
          have HN := Lib.hid HSA.out.2.2.2.1
          have HZ := Lib.hid HSA.out.2.2.1
          have H4 : Hid ((stgCells (⟨0, 0, 0, 0⟩ : Stg)).toArray.size = 4) := Lib.hid rfl
          have HQR := Lib.hid (setRow_heap _ _ _ (stgCells (⟨0, yQ.num, 0, 0⟩ : Stg)).toArray _ _ HSA.out.2.2.1)
          go_wp2_with (first
            | ((with_reducible refine stg_load (w.heap.size + 1) 0 (⟨0, yQ.num, 0, 0⟩ : Stg) ?hx (rangeAt_block HN.out) ?_); (case hx => rfl))
            | ((with_reducible refine stg_put w.heap.size (⟨0, yQ.num, 0, 0⟩ : Stg) ?hx ?hy HZ.out H4 ?_); (case hx => rfl); (case hy => rfl)))
          refine bodyPost_ret (v := .tuple #[.agg (stgCells (⟨0, yQ.num, 0, 0⟩ : Stg)).toArray, .bool false]) ?_ rfl ⟨(⟨0, yQ.num, 0, 0⟩ : Stg), rfl, nofun, ?_, ?_⟩
          · exact results_cell2 Tryd.results60 _ _ w.heap.size 0 (stgCells (⟨0, yQ.num, 0, 0⟩ : Stg)) rfl (rangeAt_block HQR.out) Tryd.underlying52 rfl stg_info _ rfl
          · exact HSA.out.1.row (by omega) _
          · exact gb_setRow HSA.out.2.1 (.inr (Nat.le_refl _)) _
        | true =>
          rw [hmA] at he HSA
          subst he
          rw [if_pos rfl] at HSA
          have H4s := Lib.hid (stg4_ok H3.out hmA)
          have hkA : k + 1 + 1 + 1 < xs.length := lxEnds_next HEND.out (by omega) (by rw [lxIs, Bool.and_eq_true, beq_iff_eq] at hmA; rw [hmA.1]; decide)
          clear hmA
          go_wp2_with fail
          refine (number_sg HL.out hxm HSA.out hkA 0).mono ?_
          rintro e wB ⟨he, hstB⟩
          have HSB := Lib.hid hstB
          clear hstB
          obtain ⟨yB, hyB⟩ : ∃ y, lxAt xs (k + 1 + 1 + 1) = y := ⟨_, rfl⟩
          cases hmB : numOk (lxAt xs (k + 1 + 1 + 1)) 0 with
          | false =>
            rw [hmB] at he HSB
            subst he
            rw [if_neg (by decide)] at HSB
            have HSC := Lib.hid (HSB.out.set (j := 2) (v := .int .i64 0) (⟨0, yQ.num, 0, 0⟩ : Stg) rfl)
            have f0 := HSB.out.frozen 2
            have f1 := HSB.out.cell 2 (.int .i64 0) rfl
            have hlt9 := HSB.out.lt
            have hbad := stg5_bad HNN.out H4s.out hkA hmB
            rw [HR.out] at hbad
            obtain ⟨RX, RS⟩ := R
            simp only at hbad
            subst hbad
            have HN := Lib.hid HSC.out.2.2.2.1
            have HZ := Lib.hid HSC.out.2.2.1
            have H4 : Hid ((stgCells (⟨0, 0, 0, 0⟩ : Stg)).toArray.size = 4) := Lib.hid rfl
            have HQR := Lib.hid (setRow_heap _ _ _ (stgCells (⟨0, yQ.num, 0, 0⟩ : Stg)).toArray _ _ HSC.out.2.2.1)
            go_wp2_with (first
              | ((with_reducible refine stg_load (w.heap.size + 1) 0 (⟨0, yQ.num, 0, 0⟩ : Stg) ?hx (rangeAt_block HN.out) ?_); (case hx => rfl))
              | ((with_reducible refine stg_put w.heap.size (⟨0, yQ.num, 0, 0⟩ : Stg) ?hx ?hy HZ.out H4 ?_); (case hx => rfl); (case hy => rfl)))
            refine bodyPost_ret (v := .tuple #[.agg (stgCells (⟨0, yQ.num, 0, 0⟩ : Stg)).toArray, .bool false]) ?_ rfl ⟨(⟨0, yQ.num, 0, 0⟩ : Stg), rfl, nofun, ?_, ?_⟩
            · exact results_cell2 Tryd.results60 _ _ w.heap.size 0 (stgCells (⟨0, yQ.num, 0, 0⟩ : Stg)) rfl (rangeAt_block HQR.out) Tryd.underlying52 rfl stg_info _ rfl
            · exact HSC.out.1.row (by omega) _
            · exact gb_setRow HSC.out.2.1 (.inr (Nat.le_refl _)) _
          | true =>
            rw [hmB, hyB] at he
            rw [hmB] at HSB
            subst he
            rw [if_pos rfl] at HSB
            have HTE := Lib.hid (stg5_ok H4s.out hmB)
            have hkB : k + 1 + 1 + 1 + 1 < xs.length := lxEnds_next HEND.out hkA (by rw [numOk, Bool.and_eq_true, beq_iff_eq] at hmB; rw [hmB.1]; decide)
            have HSC := Lib.hid (HSB.out.set (j := 2) (v := .int .i64 yB.num) (⟨0, yQ.num, yB.num, 0⟩ : Stg) rfl)
            have f0 := HSB.out.frozen 2
            have f1 := HSB.out.cell 2 (.int .i64 0) rfl
            have hlt9 := HSB.out.lt
            have HYB := Lib.hid hyB
            clear hmB hyB
            go_wp2_with fail
            refine (skip_sg HL.out hxm HSC.out hkB 3 _ [45] rfl).mono ?_
            rintro e wD ⟨he, hstD⟩
            have HSD := Lib.hid hstD
            clear hstD f0 f1 hlt9
            cases hmD : lxIs (lxAt xs (k + 1 + 1 + 1 + 1)) 3 [45] with
            | false =>
              rw [hmD] at he HSD
              subst he
              rw [if_neg (by decide)] at HSD
              have hbad := stg6_bad HTE.out.1 hmD
              rw [HR.out] at hbad
              obtain ⟨RX, RS⟩ := R
              simp only at hbad
              subst hbad
              have HN := Lib.hid HSD.out.2.2.2.1
              have HZ := Lib.hid HSD.out.2.2.1
              have H4 : Hid ((stgCells (⟨0, 0, 0, 0⟩ : Stg)).toArray.size = 4) := Lib.hid rfl
              have HQR := Lib.hid (setRow_heap _ _ _ (stgCells (⟨0, yQ.num, yB.num, 0⟩ : Stg)).toArray _ _ HSD.out.2.2.1)
              go_wp2_with (first
                | ((with_reducible refine stg_load (w.heap.size + 1) 0 (⟨0, yQ.num, yB.num, 0⟩ : Stg) ?hx (rangeAt_block HN.out) ?_); (case hx => rfl))
                | ((with_reducible refine stg_put w.heap.size (⟨0, yQ.num, yB.num, 0⟩ : Stg) ?hx ?hy HZ.out H4 ?_); (case hx => rfl); (case hy => rfl)))
              refine bodyPost_ret (v := .tuple #[.agg (stgCells (⟨0, yQ.num, yB.num, 0⟩ : Stg)).toArray, .bool false]) ?_ rfl ⟨(⟨0, yQ.num, yB.num, 0⟩ : Stg), rfl, nofun, ?_, ?_⟩
              · exact results_cell2 Tryd.results60 _ _ w.heap.size 0 (stgCells (⟨0, yQ.num, yB.num, 0⟩ : Stg)) rfl (rangeAt_block HQR.out) Tryd.underlying52 rfl stg_info _ rfl
              · exact HSD.out.1.row (by omega) _
              · exact gb_setRow HSD.out.2.1 (.inr (Nat.le_refl _)) _
            | true =>
              rw [hmD] at he HSD
              subst he
              rw [if_pos rfl] at HSD
              have H6s := Lib.hid (stg6_ok HTE.out.1 hmD)
              have hkD : k + 1 + 1 + 1 + 1 + 1 < xs.length := lxEnds_next HEND.out hkB (by rw [lxIs, Bool.and_eq_true, beq_iff_eq] at hmD; rw [hmD.1]; decide)
              clear hmD
              go_wp2_with fail
              refine (number_sg HL.out hxm HSD.out hkD 0).mono ?_
              rintro e wE ⟨he, hstE⟩
              have HSE := Lib.hid hstE
              clear hstE
              obtain ⟨yE, hyE⟩ : ∃ y, lxAt xs (k + 1 + 1 + 1 + 1 + 1) = y := ⟨_, rfl⟩
              cases hmE : numOk (lxAt xs (k + 1 + 1 + 1 + 1 + 1)) 0 with
              | false =>
                rw [hmE] at he HSE
                subst he
                rw [if_neg (by decide)] at HSE
                have HSF := Lib.hid (HSE.out.set (j := 3) (v := .int .i64 0) (⟨0, yQ.num, yB.num, 0⟩ : Stg) rfl)
                have f0 := HSE.out.frozen 3
                have f1 := HSE.out.cell 3 (.int .i64 0) rfl
                have hlt9 := HSE.out.lt
                have hbad := stg7_bad HNN.out H6s.out hkD hmE
                rw [HR.out] at hbad
                obtain ⟨RX, RS⟩ := R
                simp only at hbad
                subst hbad
                have HN := Lib.hid HSF.out.2.2.2.1
                have HZ := Lib.hid HSF.out.2.2.1
                have H4 : Hid ((stgCells (⟨0, 0, 0, 0⟩ : Stg)).toArray.size = 4) := Lib.hid rfl
                have HQR := Lib.hid (setRow_heap _ _ _ (stgCells (⟨0, yQ.num, yB.num, 0⟩ : Stg)).toArray _ _ HSF.out.2.2.1)
                go_wp2_with (first
                  | ((with_reducible refine stg_load (w.heap.size + 1) 0 (⟨0, yQ.num, yB.num, 0⟩ : Stg) ?hx (rangeAt_block HN.out) ?_); (case hx => rfl))
                  | ((with_reducible refine stg_put w.heap.size (⟨0, yQ.num, yB.num, 0⟩ : Stg) ?hx ?hy HZ.out H4 ?_); (case hx => rfl); (case hy => rfl)))
                refine bodyPost_ret (v := .tuple #[.agg (stgCells (⟨0, yQ.num, yB.num, 0⟩ : Stg)).toArray, .bool false]) ?_ rfl ⟨(⟨0, yQ.num, yB.num, 0⟩ : Stg), rfl, nofun, ?_, ?_⟩
                · exact results_cell2 Tryd.results60 _ _ w.heap.size 0 (stgCells (⟨0, yQ.num, yB.num, 0⟩ : Stg)) rfl (rangeAt_block HQR.out) Tryd.underlying52 rfl stg_info _ rfl
                · exact HSF.out.1.row (by omega) _
                · exact gb_setRow HSF.out.2.1 (.inr (Nat.le_refl _)) _
              | true =>
                rw [hmE, hyE] at he
                rw [hmE] at HSE
                subst he
                rw [if_pos rfl] at HSE
                have HDE := Lib.hid (stg7_ok H6s.out hmE)
                have hkE : k + 1 + 1 + 1 + 1 + 1 + 1 < xs.length := lxEnds_next HEND.out hkD (by rw [numOk, Bool.and_eq_true, beq_iff_eq] at hmE; rw [hmE.1]; decide)
                obtain ⟨x3, hx3⟩ : ∃ x3 : Stg, (⟨0, yQ.num, yB.num, yE.num⟩ : Stg) = x3 := ⟨_, rfl⟩
                have HSF := Lib.hid (show SgSt w (wE.setCell ⟨w.heap.size + 1, 3, none⟩ (.int .i64 yE.num)) rb lv _ (⟨0, 0, 0, 0⟩ : Stg) x3 by rw [← hx3]; exact HSE.out.set (j := 3) (v := .int .i64 yE.num) (⟨0, yQ.num, yB.num, yE.num⟩ : Stg) rfl)
                have HX3 := Lib.hid hx3
                have f0 := HSE.out.frozen 3
                have f1 := HSE.out.cell 3 (.int .i64 0) rfl
                have hlt9 := HSE.out.lt
                have HYE := Lib.hid hyE
                clear hmE hyE hx3
                go_wp2_with fail
                have HRX := Lib.hid (show R.1 = x3 by
                  rw [← HX3.out, ← HR.out]
                  exact stg_ext (stg_parts HP1.out HP2.out).1 (stg_parts HP1.out HP2.out).2 (HTE.out.2.trans (by rw [HYB.out])) (HDE.out.2.trans (by rw [HYE.out])))
                have h8 := stg8_of HDE.out.1
                rw [HR.out] at h8
                obtain ⟨m, hm⟩ : ∃ m, lxIs (lxAt xs (k + 1 + 1 + 1 + 1 + 1 + 1)) 3 [59] = m := ⟨_, rfl⟩
                rw [hm] at h8
                have H8 := Lib.hid h8
                have HM := Lib.hid hm
                clear h8
                obtain ⟨W9, hW9⟩ : ∃ W9, wE.setCell ⟨w.heap.size + 1, 3, none⟩ (.int .i64 yE.num) = W9 := ⟨_, rfl⟩
                rw [hW9] at HSF
                rw [hW9]
                clear hW9 hm f0 f1 hlt9
                have hlt9 := HSF.out.lt
                obtain ⟨⟨p0, p1, p2, p3⟩, ⟨z0, z1, z2, z3⟩, ⟨y0, y1, y2, y3⟩⟩ := HSF.out.all
                go_region_with (first
                  | (go_at_call 58; refine (skip_sg HL.out hxm HSF.out.drew hkE 3 ⟨#[59]⟩ [59] rfl).mono ?_; rintro e wf ⟨he, hstf⟩; rw [HM.out] at he hstf; subst he; have HF := Lib.hid hstf; have hltf := hstf.lt; obtain ⟨⟨pa0, pa1, pa2, pa3⟩, ⟨za0, za1, za2, za3⟩, ⟨ya0, ya1, ya2, ya3⟩⟩ := hstf.all; clear hstf)
                  | (go_at_call 58; refine (skip_sg HL.out hxm (HSF.out.drew.put x3) hkE 3 ⟨#[59]⟩ [59] rfl).mono ?_; rintro e wf ⟨he, hstf⟩; rw [HM.out] at he hstf; subst he; have HG := Lib.hid hstf; clear hstf))
                all_goals
                  go_wp2_with fail
                  first
                    | (refine bodyPost_ret (v := .tuple #[.agg (stgCells x3).toArray, .bool m]) ?_ rfl ⟨x3, ?_, fun _ => HRX.out.symm, ?_, ?_⟩
                       · exact results_cell2 Tryd.results60 _ _ w.heap.size 0 (stgCells x3) rfl (rangeAt_block (HF.out.put x3).2.2.1) Tryd.underlying52 rfl stg_info _ rfl
                       · rw [H8.out]; cases m <;> rfl
                       · rw [H8.out]; have h9 := (HF.out.put x3).1; cases m <;> exact h9
                       · exact (HF.out.put x3).2.1)
                    | (refine bodyPost_ret (v := .tuple #[.agg (stgCells x3).toArray, .bool m]) ?_ rfl ⟨x3, ?_, fun _ => HRX.out.symm, ?_, ?_⟩
                       · exact results_cell2 Tryd.results60 _ _ w.heap.size 0 (stgCells x3) rfl (rangeAt_block HG.out.2.2.1) Tryd.underlying52 rfl stg_info _ rfl
                       · rw [H8.out]; cases m <;> rfl
                       · rw [H8.out]; have h9 := HG.out.1; cases m <;> exact h9
                       · exact HG.out.2.1)
  | true =>
    rw [hmP] at he HSP
    subst he
    rw [if_pos rfl] at HSP
    have hkP : k + 1 < xs.length := lxEnds_next HEND.out (by omega) (by have h9 := hmP; rw [lxIs, Bool.and_eq_true, beq_iff_eq] at h9; rw [h9.1]; decide)
    have HMP := Lib.hid hmP
    clear hmP
    go_wp2_with fail
    refine (number_sg HL.out hxm HSP.out hkP 1).mono ?_
    rintro e wP2 ⟨he, hstP⟩
    have HSP2 := Lib.hid hstP
    clear hstP
    obtain ⟨yP, hyP⟩ : ∃ y, lxAt xs (k + 1) = y := ⟨_, rfl⟩
    cases hnP : numOk (lxAt xs (k + 1)) 1 with
    | false =>
      rw [hnP] at he HSP2
      subst he
      rw [if_neg (by decide)] at HSP2
      have HSP3 := Lib.hid (HSP2.out.set (j := 0) (v := .int .i64 0) (⟨0, 0, 0, 0⟩ : Stg) rfl)
      have f0 := HSP2.out.frozen 0
      have f1 := HSP2.out.cell 0 (.int .i64 0) rfl
      have hlt9 := HSP2.out.lt
      have hbad := stg_bad1 (part_b (by decide) HMP.out hnP)
      rw [HR.out] at hbad
      obtain ⟨RX, RS⟩ := R
      simp only at hbad
      subst hbad
      have HN := Lib.hid HSP3.out.2.2.2.1
      have HZ := Lib.hid HSP3.out.2.2.1
      have H4 : Hid ((stgCells (⟨0, 0, 0, 0⟩ : Stg)).toArray.size = 4) := Lib.hid rfl
      have HQR := Lib.hid (setRow_heap _ _ _ (stgCells (⟨0, 0, 0, 0⟩ : Stg)).toArray _ _ HSP3.out.2.2.1)
      go_wp2_with (first
        | ((with_reducible refine stg_load (w.heap.size + 1) 0 (⟨0, 0, 0, 0⟩ : Stg) ?hx (rangeAt_block HN.out) ?_); (case hx => rfl))
        | ((with_reducible refine stg_put w.heap.size (⟨0, 0, 0, 0⟩ : Stg) ?hx ?hy HZ.out H4 ?_); (case hx => rfl); (case hy => rfl)))
      refine bodyPost_ret (v := .tuple #[.agg (stgCells (⟨0, 0, 0, 0⟩ : Stg)).toArray, .bool false]) ?_ rfl ⟨(⟨0, 0, 0, 0⟩ : Stg), rfl, nofun, ?_, ?_⟩
      · exact results_cell2 Tryd.results60 _ _ w.heap.size 0 (stgCells (⟨0, 0, 0, 0⟩ : Stg)) rfl (rangeAt_block HQR.out) Tryd.underlying52 rfl stg_info _ rfl
      · exact HSP3.out.1.row (by omega) _
      · exact gb_setRow HSP3.out.2.1 (.inr (Nat.le_refl _)) _
    | true =>
      rw [hnP, hyP] at he
      rw [hnP] at HSP2
      subst he
      rw [if_pos rfl] at HSP2
      obtain ⟨hqP, hzP⟩ := part_t (by decide) HMP.out hnP
      have hkP2 : k + 1 + 1 < xs.length := lxEnds_next HEND.out hkP (by have h9 := hnP; rw [numOk, Bool.and_eq_true, beq_iff_eq] at h9; rw [h9.1]; decide)
      rw [hyP] at hqP hzP
      have HP1 := Lib.hid hqP
      have HSP3 := Lib.hid (HSP2.out.set (j := 0) (v := .int .i64 yP.num) (⟨yP.num, 0, 0, 0⟩ : Stg) rfl)
      have f0 := HSP2.out.frozen 0
      have f1 := HSP2.out.cell 0 (.int .i64 0) rfl
      have hlt9 := HSP2.out.lt
      have HZP := Lib.hid hzP
      have hzbP : (yP.num == 0) = false := by rw [beq_eq_false_iff_ne]; exact hzP
      clear hqP hnP hyP hzP
      have f8 := sg_word HV.out hrg HSP2.out 1 _ rfl
      go_wp2_with fail
      clear f0 f1 hlt9 f8
      refine (skip_sg HL.out hxm HSP3.out (by omega) 1 _ forW (bts_str _)).mono ?_
      rintro e wQ ⟨he, hstQ⟩
      have HSQ := Lib.hid hstQ
      clear hstQ
      cases hmQ : lxIs (lxAt xs (k + 1 + 1)) 1 forW with
      | false =>
        rw [hmQ] at he HSQ
        subst he
        rw [if_neg (by decide)] at HSQ
        have HP2 := Lib.hid (part_f (by decide) hmQ)
        clear hmQ
        have f0 := HSQ.out.cell 0 (.int .i64 (yP.num)) rfl
        have f1 := HSQ.out.cell 1 (.int .i64 (0)) rfl
        have f2 := sg_word HV.out hrg HSQ.out 2 _ rfl
        have hlt9 := HSQ.out.lt
        go_wp2_with fail
        clear f0 f1 f2 hlt9
        have H3 := Lib.hid (stg3_ok HP1.out HP2.out (by simp only [not_and]; intro h; exact absurd h HZP.out))
        refine (skip_sg HL.out hxm HSQ.out (by omega) 1 _ atW (bts_str _)).mono ?_
        rintro e wA ⟨he, hstA⟩
        have HSA := Lib.hid hstA
        clear hstA
        cases hmA : lxIs (lxAt xs (k + 1 + 1)) 1 atW with
        | false =>
          rw [hmA] at he HSA
          subst he
          rw [if_neg (by decide)] at HSA
          have hbad := stg4_bad H3.out hmA
          rw [HR.out] at hbad
          obtain ⟨RX, RS⟩ := R
          simp only at hbad
          subst hbad
          have HN := Lib.hid HSA.out.2.2.2.1
          have HZ := Lib.hid HSA.out.2.2.1
          have H4 : Hid ((stgCells (⟨0, 0, 0, 0⟩ : Stg)).toArray.size = 4) := Lib.hid rfl
          have HQR := Lib.hid (setRow_heap _ _ _ (stgCells (⟨yP.num, 0, 0, 0⟩ : Stg)).toArray _ _ HSA.out.2.2.1)
          go_wp2_with (first
            | ((with_reducible refine stg_load (w.heap.size + 1) 0 (⟨yP.num, 0, 0, 0⟩ : Stg) ?hx (rangeAt_block HN.out) ?_); (case hx => rfl))
            | ((with_reducible refine stg_put w.heap.size (⟨yP.num, 0, 0, 0⟩ : Stg) ?hx ?hy HZ.out H4 ?_); (case hx => rfl); (case hy => rfl)))
          refine bodyPost_ret (v := .tuple #[.agg (stgCells (⟨yP.num, 0, 0, 0⟩ : Stg)).toArray, .bool false]) ?_ rfl ⟨(⟨yP.num, 0, 0, 0⟩ : Stg), rfl, nofun, ?_, ?_⟩
          · exact results_cell2 Tryd.results60 _ _ w.heap.size 0 (stgCells (⟨yP.num, 0, 0, 0⟩ : Stg)) rfl (rangeAt_block HQR.out) Tryd.underlying52 rfl stg_info _ rfl
          · exact HSA.out.1.row (by omega) _
          · exact gb_setRow HSA.out.2.1 (.inr (Nat.le_refl _)) _
        | true =>
          rw [hmA] at he HSA
          subst he
          rw [if_pos rfl] at HSA
          have H4s := Lib.hid (stg4_ok H3.out hmA)
          have hkA : k + 1 + 1 + 1 < xs.length := lxEnds_next HEND.out (by omega) (by rw [lxIs, Bool.and_eq_true, beq_iff_eq] at hmA; rw [hmA.1]; decide)
          clear hmA
          go_wp2_with fail
          refine (number_sg HL.out hxm HSA.out hkA 0).mono ?_
          rintro e wB ⟨he, hstB⟩
          have HSB := Lib.hid hstB
          clear hstB
          obtain ⟨yB, hyB⟩ : ∃ y, lxAt xs (k + 1 + 1 + 1) = y := ⟨_, rfl⟩
          cases hmB : numOk (lxAt xs (k + 1 + 1 + 1)) 0 with
          | false =>
            rw [hmB] at he HSB
            subst he
            rw [if_neg (by decide)] at HSB
            have HSC := Lib.hid (HSB.out.set (j := 2) (v := .int .i64 0) (⟨yP.num, 0, 0, 0⟩ : Stg) rfl)
            have f0 := HSB.out.frozen 2
            have f1 := HSB.out.cell 2 (.int .i64 0) rfl
            have hlt9 := HSB.out.lt
            have hbad := stg5_bad HNN.out H4s.out hkA hmB
            rw [HR.out] at hbad
            obtain ⟨RX, RS⟩ := R
            simp only at hbad
            subst hbad
            have HN := Lib.hid HSC.out.2.2.2.1
            have HZ := Lib.hid HSC.out.2.2.1
            have H4 : Hid ((stgCells (⟨0, 0, 0, 0⟩ : Stg)).toArray.size = 4) := Lib.hid rfl
            have HQR := Lib.hid (setRow_heap _ _ _ (stgCells (⟨yP.num, 0, 0, 0⟩ : Stg)).toArray _ _ HSC.out.2.2.1)
            go_wp2_with (first
              | ((with_reducible refine stg_load (w.heap.size + 1) 0 (⟨yP.num, 0, 0, 0⟩ : Stg) ?hx (rangeAt_block HN.out) ?_); (case hx => rfl))
              | ((with_reducible refine stg_put w.heap.size (⟨yP.num, 0, 0, 0⟩ : Stg) ?hx ?hy HZ.out H4 ?_); (case hx => rfl); (case hy => rfl)))
            refine bodyPost_ret (v := .tuple #[.agg (stgCells (⟨yP.num, 0, 0, 0⟩ : Stg)).toArray, .bool false]) ?_ rfl ⟨(⟨yP.num, 0, 0, 0⟩ : Stg), rfl, nofun, ?_, ?_⟩
            · exact results_cell2 Tryd.results60 _ _ w.heap.size 0 (stgCells (⟨yP.num, 0, 0, 0⟩ : Stg)) rfl (rangeAt_block HQR.out) Tryd.underlying52 rfl stg_info _ rfl
            · exact HSC.out.1.row (by omega) _
            · exact gb_setRow HSC.out.2.1 (.inr (Nat.le_refl _)) _
          | true =>
            rw [hmB, hyB] at he
            rw [hmB] at HSB
            subst he
            rw [if_pos rfl] at HSB
            have HTE := Lib.hid (stg5_ok H4s.out hmB)
            have hkB : k + 1 + 1 + 1 + 1 < xs.length := lxEnds_next HEND.out hkA (by rw [numOk, Bool.and_eq_true, beq_iff_eq] at hmB; rw [hmB.1]; decide)
            have HSC := Lib.hid (HSB.out.set (j := 2) (v := .int .i64 yB.num) (⟨yP.num, 0, yB.num, 0⟩ : Stg) rfl)
            have f0 := HSB.out.frozen 2
            have f1 := HSB.out.cell 2 (.int .i64 0) rfl
            have hlt9 := HSB.out.lt
            have HYB := Lib.hid hyB
            clear hmB hyB
            go_wp2_with fail
            refine (skip_sg HL.out hxm HSC.out hkB 3 _ [45] rfl).mono ?_
            rintro e wD ⟨he, hstD⟩
            have HSD := Lib.hid hstD
            clear hstD f0 f1 hlt9
            cases hmD : lxIs (lxAt xs (k + 1 + 1 + 1 + 1)) 3 [45] with
            | false =>
              rw [hmD] at he HSD
              subst he
              rw [if_neg (by decide)] at HSD
              have hbad := stg6_bad HTE.out.1 hmD
              rw [HR.out] at hbad
              obtain ⟨RX, RS⟩ := R
              simp only at hbad
              subst hbad
              have HN := Lib.hid HSD.out.2.2.2.1
              have HZ := Lib.hid HSD.out.2.2.1
              have H4 : Hid ((stgCells (⟨0, 0, 0, 0⟩ : Stg)).toArray.size = 4) := Lib.hid rfl
              have HQR := Lib.hid (setRow_heap _ _ _ (stgCells (⟨yP.num, 0, yB.num, 0⟩ : Stg)).toArray _ _ HSD.out.2.2.1)
              go_wp2_with (first
                | ((with_reducible refine stg_load (w.heap.size + 1) 0 (⟨yP.num, 0, yB.num, 0⟩ : Stg) ?hx (rangeAt_block HN.out) ?_); (case hx => rfl))
                | ((with_reducible refine stg_put w.heap.size (⟨yP.num, 0, yB.num, 0⟩ : Stg) ?hx ?hy HZ.out H4 ?_); (case hx => rfl); (case hy => rfl)))
              refine bodyPost_ret (v := .tuple #[.agg (stgCells (⟨yP.num, 0, yB.num, 0⟩ : Stg)).toArray, .bool false]) ?_ rfl ⟨(⟨yP.num, 0, yB.num, 0⟩ : Stg), rfl, nofun, ?_, ?_⟩
              · exact results_cell2 Tryd.results60 _ _ w.heap.size 0 (stgCells (⟨yP.num, 0, yB.num, 0⟩ : Stg)) rfl (rangeAt_block HQR.out) Tryd.underlying52 rfl stg_info _ rfl
              · exact HSD.out.1.row (by omega) _
              · exact gb_setRow HSD.out.2.1 (.inr (Nat.le_refl _)) _
            | true =>
              rw [hmD] at he HSD
              subst he
              rw [if_pos rfl] at HSD
              have H6s := Lib.hid (stg6_ok HTE.out.1 hmD)
              have hkD : k + 1 + 1 + 1 + 1 + 1 < xs.length := lxEnds_next HEND.out hkB (by rw [lxIs, Bool.and_eq_true, beq_iff_eq] at hmD; rw [hmD.1]; decide)
              clear hmD
              go_wp2_with fail
              refine (number_sg HL.out hxm HSD.out hkD 0).mono ?_
              rintro e wE ⟨he, hstE⟩
              have HSE := Lib.hid hstE
              clear hstE
              obtain ⟨yE, hyE⟩ : ∃ y, lxAt xs (k + 1 + 1 + 1 + 1 + 1) = y := ⟨_, rfl⟩
              cases hmE : numOk (lxAt xs (k + 1 + 1 + 1 + 1 + 1)) 0 with
              | false =>
                rw [hmE] at he HSE
                subst he
                rw [if_neg (by decide)] at HSE
                have HSF := Lib.hid (HSE.out.set (j := 3) (v := .int .i64 0) (⟨yP.num, 0, yB.num, 0⟩ : Stg) rfl)
                have f0 := HSE.out.frozen 3
                have f1 := HSE.out.cell 3 (.int .i64 0) rfl
                have hlt9 := HSE.out.lt
                have hbad := stg7_bad HNN.out H6s.out hkD hmE
                rw [HR.out] at hbad
                obtain ⟨RX, RS⟩ := R
                simp only at hbad
                subst hbad
                have HN := Lib.hid HSF.out.2.2.2.1
                have HZ := Lib.hid HSF.out.2.2.1
                have H4 : Hid ((stgCells (⟨0, 0, 0, 0⟩ : Stg)).toArray.size = 4) := Lib.hid rfl
                have HQR := Lib.hid (setRow_heap _ _ _ (stgCells (⟨yP.num, 0, yB.num, 0⟩ : Stg)).toArray _ _ HSF.out.2.2.1)
                go_wp2_with (first
                  | ((with_reducible refine stg_load (w.heap.size + 1) 0 (⟨yP.num, 0, yB.num, 0⟩ : Stg) ?hx (rangeAt_block HN.out) ?_); (case hx => rfl))
                  | ((with_reducible refine stg_put w.heap.size (⟨yP.num, 0, yB.num, 0⟩ : Stg) ?hx ?hy HZ.out H4 ?_); (case hx => rfl); (case hy => rfl)))
                refine bodyPost_ret (v := .tuple #[.agg (stgCells (⟨yP.num, 0, yB.num, 0⟩ : Stg)).toArray, .bool false]) ?_ rfl ⟨(⟨yP.num, 0, yB.num, 0⟩ : Stg), rfl, nofun, ?_, ?_⟩
                · exact results_cell2 Tryd.results60 _ _ w.heap.size 0 (stgCells (⟨yP.num, 0, yB.num, 0⟩ : Stg)) rfl (rangeAt_block HQR.out) Tryd.underlying52 rfl stg_info _ rfl
                · exact HSF.out.1.row (by omega) _
                · exact gb_setRow HSF.out.2.1 (.inr (Nat.le_refl _)) _
              | true =>
                rw [hmE, hyE] at he
                rw [hmE] at HSE
                subst he
                rw [if_pos rfl] at HSE
                have HDE := Lib.hid (stg7_ok H6s.out hmE)
                have hkE : k + 1 + 1 + 1 + 1 + 1 + 1 < xs.length := lxEnds_next HEND.out hkD (by rw [numOk, Bool.and_eq_true, beq_iff_eq] at hmE; rw [hmE.1]; decide)
                obtain ⟨x3, hx3⟩ : ∃ x3 : Stg, (⟨yP.num, 0, yB.num, yE.num⟩ : Stg) = x3 := ⟨_, rfl⟩
                have HSF := Lib.hid (show SgSt w (wE.setCell ⟨w.heap.size + 1, 3, none⟩ (.int .i64 yE.num)) rb lv _ (⟨0, 0, 0, 0⟩ : Stg) x3 by rw [← hx3]; exact HSE.out.set (j := 3) (v := .int .i64 yE.num) (⟨yP.num, 0, yB.num, yE.num⟩ : Stg) rfl)
                have HX3 := Lib.hid hx3
                have f0 := HSE.out.frozen 3
                have f1 := HSE.out.cell 3 (.int .i64 0) rfl
                have hlt9 := HSE.out.lt
                have HYE := Lib.hid hyE
                clear hmE hyE hx3
                go_wp2_with fail
                have HRX := Lib.hid (show R.1 = x3 by
                  rw [← HX3.out, ← HR.out]
                  exact stg_ext (stg_parts HP1.out HP2.out).1 (stg_parts HP1.out HP2.out).2 (HTE.out.2.trans (by rw [HYB.out])) (HDE.out.2.trans (by rw [HYE.out])))
                have h8 := stg8_of HDE.out.1
                rw [HR.out] at h8
                obtain ⟨m, hm⟩ : ∃ m, lxIs (lxAt xs (k + 1 + 1 + 1 + 1 + 1 + 1)) 3 [59] = m := ⟨_, rfl⟩
                rw [hm] at h8
                have H8 := Lib.hid h8
                have HM := Lib.hid hm
                clear h8
                obtain ⟨W9, hW9⟩ : ∃ W9, wE.setCell ⟨w.heap.size + 1, 3, none⟩ (.int .i64 yE.num) = W9 := ⟨_, rfl⟩
                rw [hW9] at HSF
                rw [hW9]
                clear hW9 hm f0 f1 hlt9
                have hlt9 := HSF.out.lt
                obtain ⟨⟨p0, p1, p2, p3⟩, ⟨z0, z1, z2, z3⟩, ⟨y0, y1, y2, y3⟩⟩ := HSF.out.all
                go_region_with (first
                  | (go_at_call 58; refine (skip_sg HL.out hxm HSF.out.drew hkE 3 ⟨#[59]⟩ [59] rfl).mono ?_; rintro e wf ⟨he, hstf⟩; rw [HM.out] at he hstf; subst he; have HF := Lib.hid hstf; have hltf := hstf.lt; obtain ⟨⟨pa0, pa1, pa2, pa3⟩, ⟨za0, za1, za2, za3⟩, ⟨ya0, ya1, ya2, ya3⟩⟩ := hstf.all; clear hstf)
                  | (go_at_call 58; refine (skip_sg HL.out hxm (HSF.out.drew.put x3) hkE 3 ⟨#[59]⟩ [59] rfl).mono ?_; rintro e wf ⟨he, hstf⟩; rw [HM.out] at he hstf; subst he; have HG := Lib.hid hstf; clear hstf))
                all_goals
                  go_wp2_with fail
                  first
                    | (refine bodyPost_ret (v := .tuple #[.agg (stgCells x3).toArray, .bool m]) ?_ rfl ⟨x3, ?_, fun _ => HRX.out.symm, ?_, ?_⟩
                       · exact results_cell2 Tryd.results60 _ _ w.heap.size 0 (stgCells x3) rfl (rangeAt_block (HF.out.put x3).2.2.1) Tryd.underlying52 rfl stg_info _ rfl
                       · rw [H8.out]; cases m <;> rfl
                       · rw [H8.out]; have h9 := (HF.out.put x3).1; cases m <;> exact h9
                       · exact (HF.out.put x3).2.1)
                    | (refine bodyPost_ret (v := .tuple #[.agg (stgCells x3).toArray, .bool m]) ?_ rfl ⟨x3, ?_, fun _ => HRX.out.symm, ?_, ?_⟩
                       · exact results_cell2 Tryd.results60 _ _ w.heap.size 0 (stgCells x3) rfl (rangeAt_block HG.out.2.2.1) Tryd.underlying52 rfl stg_info _ rfl
                       · rw [H8.out]; cases m <;> rfl
                       · rw [H8.out]; have h9 := HG.out.1; cases m <;> exact h9
                       · exact HG.out.2.1)
      | true =>
        rw [hmQ] at he HSQ
        subst he
        rw [if_pos rfl] at HSQ
        have hkQ : k + 1 + 1 + 1 < xs.length := lxEnds_next HEND.out (by omega) (by have h9 := hmQ; rw [lxIs, Bool.and_eq_true, beq_iff_eq] at h9; rw [h9.1]; decide)
        have HMQ := Lib.hid hmQ
        clear hmQ
        go_wp2_with fail
        refine (number_sg HL.out hxm HSQ.out hkQ 1).mono ?_
        rintro e wQ2 ⟨he, hstQ⟩
        have HSQ2 := Lib.hid hstQ
        clear hstQ
        obtain ⟨yQ, hyQ⟩ : ∃ y, lxAt xs (k + 1 + 1 + 1) = y := ⟨_, rfl⟩
        cases hnQ : numOk (lxAt xs (k + 1 + 1 + 1)) 1 with
        | false =>
          rw [hnQ] at he HSQ2
          subst he
          rw [if_neg (by decide)] at HSQ2
          have HSQ3 := Lib.hid (HSQ2.out.set (j := 1) (v := .int .i64 0) (⟨yP.num, 0, 0, 0⟩ : Stg) rfl)
          have f0 := HSQ2.out.frozen 1
          have f1 := HSQ2.out.cell 1 (.int .i64 0) rfl
          have hlt9 := HSQ2.out.lt
          have hbad := stg_bad2 HP1.out (part_b (by decide) HMQ.out hnQ)
          rw [HR.out] at hbad
          obtain ⟨RX, RS⟩ := R
          simp only at hbad
          subst hbad
          have HN := Lib.hid HSQ3.out.2.2.2.1
          have HZ := Lib.hid HSQ3.out.2.2.1
          have H4 : Hid ((stgCells (⟨0, 0, 0, 0⟩ : Stg)).toArray.size = 4) := Lib.hid rfl
          have HQR := Lib.hid (setRow_heap _ _ _ (stgCells (⟨yP.num, 0, 0, 0⟩ : Stg)).toArray _ _ HSQ3.out.2.2.1)
          go_wp2_with (first
            | ((with_reducible refine stg_load (w.heap.size + 1) 0 (⟨yP.num, 0, 0, 0⟩ : Stg) ?hx (rangeAt_block HN.out) ?_); (case hx => rfl))
            | ((with_reducible refine stg_put w.heap.size (⟨yP.num, 0, 0, 0⟩ : Stg) ?hx ?hy HZ.out H4 ?_); (case hx => rfl); (case hy => rfl)))
          refine bodyPost_ret (v := .tuple #[.agg (stgCells (⟨yP.num, 0, 0, 0⟩ : Stg)).toArray, .bool false]) ?_ rfl ⟨(⟨yP.num, 0, 0, 0⟩ : Stg), rfl, nofun, ?_, ?_⟩
          · exact results_cell2 Tryd.results60 _ _ w.heap.size 0 (stgCells (⟨yP.num, 0, 0, 0⟩ : Stg)) rfl (rangeAt_block HQR.out) Tryd.underlying52 rfl stg_info _ rfl
          · exact HSQ3.out.1.row (by omega) _
          · exact gb_setRow HSQ3.out.2.1 (.inr (Nat.le_refl _)) _
        | true =>
          rw [hnQ, hyQ] at he
          rw [hnQ] at HSQ2
          subst he
          rw [if_pos rfl] at HSQ2
          obtain ⟨hqQ, hzQ⟩ := part_t (by decide) HMQ.out hnQ
          have hkQ2 : k + 1 + 1 + 1 + 1 < xs.length := lxEnds_next HEND.out hkQ (by have h9 := hnQ; rw [numOk, Bool.and_eq_true, beq_iff_eq] at h9; rw [h9.1]; decide)
          rw [hyQ] at hqQ hzQ
          have HP2 := Lib.hid hqQ
          have HSQ3 := Lib.hid (HSQ2.out.set (j := 1) (v := .int .i64 yQ.num) (⟨yP.num, yQ.num, 0, 0⟩ : Stg) rfl)
          have f0 := HSQ2.out.frozen 1
          have f1 := HSQ2.out.cell 1 (.int .i64 0) rfl
          have hlt9 := HSQ2.out.lt
          have HZQ := Lib.hid hzQ
          have hzbQ : (yQ.num == 0) = false := by rw [beq_eq_false_iff_ne]; exact hzQ
          clear hqQ hnQ hyQ hzQ
          have f8 := sg_word HV.out hrg HSQ2.out 2 _ rfl
          have f7 := HSQ2.out.cell 0 (.int .i64 (yP.num)) rfl
          go_wp2_with fail
          clear f0 f1 hlt9 f8 f7
          have H3 := Lib.hid (stg3_ok HP1.out HP2.out (by simp only [not_and]; intro h; exact absurd h HZP.out))
          refine (skip_sg HL.out hxm HSQ3.out (by omega) 1 _ atW (bts_str _)).mono ?_
          rintro e wA ⟨he, hstA⟩
          have HSA := Lib.hid hstA
          clear hstA
          cases hmA : lxIs (lxAt xs (k + 1 + 1 + 1 + 1)) 1 atW with
          | false =>
            rw [hmA] at he HSA
            subst he
            rw [if_neg (by decide)] at HSA
            have hbad := stg4_bad H3.out hmA
            rw [HR.out] at hbad
            obtain ⟨RX, RS⟩ := R
            simp only at hbad
            subst hbad
            have HN := Lib.hid HSA.out.2.2.2.1
            have HZ := Lib.hid HSA.out.2.2.1
            have H4 : Hid ((stgCells (⟨0, 0, 0, 0⟩ : Stg)).toArray.size = 4) := Lib.hid rfl
            have HQR := Lib.hid (setRow_heap _ _ _ (stgCells (⟨yP.num, yQ.num, 0, 0⟩ : Stg)).toArray _ _ HSA.out.2.2.1)
            go_wp2_with (first
              | ((with_reducible refine stg_load (w.heap.size + 1) 0 (⟨yP.num, yQ.num, 0, 0⟩ : Stg) ?hx (rangeAt_block HN.out) ?_); (case hx => rfl))
              | ((with_reducible refine stg_put w.heap.size (⟨yP.num, yQ.num, 0, 0⟩ : Stg) ?hx ?hy HZ.out H4 ?_); (case hx => rfl); (case hy => rfl)))
            refine bodyPost_ret (v := .tuple #[.agg (stgCells (⟨yP.num, yQ.num, 0, 0⟩ : Stg)).toArray, .bool false]) ?_ rfl ⟨(⟨yP.num, yQ.num, 0, 0⟩ : Stg), rfl, nofun, ?_, ?_⟩
            · exact results_cell2 Tryd.results60 _ _ w.heap.size 0 (stgCells (⟨yP.num, yQ.num, 0, 0⟩ : Stg)) rfl (rangeAt_block HQR.out) Tryd.underlying52 rfl stg_info _ rfl
            · exact HSA.out.1.row (by omega) _
            · exact gb_setRow HSA.out.2.1 (.inr (Nat.le_refl _)) _
          | true =>
            rw [hmA] at he HSA
            subst he
            rw [if_pos rfl] at HSA
            have H4s := Lib.hid (stg4_ok H3.out hmA)
            have hkA : k + 1 + 1 + 1 + 1 + 1 < xs.length := lxEnds_next HEND.out (by omega) (by rw [lxIs, Bool.and_eq_true, beq_iff_eq] at hmA; rw [hmA.1]; decide)
            clear hmA
            go_wp2_with fail
            refine (number_sg HL.out hxm HSA.out hkA 0).mono ?_
            rintro e wB ⟨he, hstB⟩
            have HSB := Lib.hid hstB
            clear hstB
            obtain ⟨yB, hyB⟩ : ∃ y, lxAt xs (k + 1 + 1 + 1 + 1 + 1) = y := ⟨_, rfl⟩
            cases hmB : numOk (lxAt xs (k + 1 + 1 + 1 + 1 + 1)) 0 with
            | false =>
              rw [hmB] at he HSB
              subst he
              rw [if_neg (by decide)] at HSB
              have HSC := Lib.hid (HSB.out.set (j := 2) (v := .int .i64 0) (⟨yP.num, yQ.num, 0, 0⟩ : Stg) rfl)
              have f0 := HSB.out.frozen 2
              have f1 := HSB.out.cell 2 (.int .i64 0) rfl
              have hlt9 := HSB.out.lt
              have hbad := stg5_bad HNN.out H4s.out hkA hmB
              rw [HR.out] at hbad
              obtain ⟨RX, RS⟩ := R
              simp only at hbad
              subst hbad
              have HN := Lib.hid HSC.out.2.2.2.1
              have HZ := Lib.hid HSC.out.2.2.1
              have H4 : Hid ((stgCells (⟨0, 0, 0, 0⟩ : Stg)).toArray.size = 4) := Lib.hid rfl
              have HQR := Lib.hid (setRow_heap _ _ _ (stgCells (⟨yP.num, yQ.num, 0, 0⟩ : Stg)).toArray _ _ HSC.out.2.2.1)
              go_wp2_with (first
                | ((with_reducible refine stg_load (w.heap.size + 1) 0 (⟨yP.num, yQ.num, 0, 0⟩ : Stg) ?hx (rangeAt_block HN.out) ?_); (case hx => rfl))
                | ((with_reducible refine stg_put w.heap.size (⟨yP.num, yQ.num, 0, 0⟩ : Stg) ?hx ?hy HZ.out H4 ?_); (case hx => rfl); (case hy => rfl)))
              refine bodyPost_ret (v := .tuple #[.agg (stgCells (⟨yP.num, yQ.num, 0, 0⟩ : Stg)).toArray, .bool false]) ?_ rfl ⟨(⟨yP.num, yQ.num, 0, 0⟩ : Stg), rfl, nofun, ?_, ?_⟩
              · exact results_cell2 Tryd.results60 _ _ w.heap.size 0 (stgCells (⟨yP.num, yQ.num, 0, 0⟩ : Stg)) rfl (rangeAt_block HQR.out) Tryd.underlying52 rfl stg_info _ rfl
              · exact HSC.out.1.row (by omega) _
              · exact gb_setRow HSC.out.2.1 (.inr (Nat.le_refl _)) _
            | true =>
              rw [hmB, hyB] at he
              rw [hmB] at HSB
              subst he
              rw [if_pos rfl] at HSB
              have HTE := Lib.hid (stg5_ok H4s.out hmB)
              have hkB : k + 1 + 1 + 1 + 1 + 1 + 1 < xs.length := lxEnds_next HEND.out hkA (by rw [numOk, Bool.and_eq_true, beq_iff_eq] at hmB; rw [hmB.1]; decide)
              have HSC := Lib.hid (HSB.out.set (j := 2) (v := .int .i64 yB.num) (⟨yP.num, yQ.num, yB.num, 0⟩ : Stg) rfl)
              have f0 := HSB.out.frozen 2
              have f1 := HSB.out.cell 2 (.int .i64 0) rfl
              have hlt9 := HSB.out.lt
              have HYB := Lib.hid hyB
              clear hmB hyB
              go_wp2_with fail
              refine (skip_sg HL.out hxm HSC.out hkB 3 _ [45] rfl).mono ?_
              rintro e wD ⟨he, hstD⟩
              have HSD := Lib.hid hstD
              clear hstD f0 f1 hlt9
              cases hmD : lxIs (lxAt xs (k + 1 + 1 + 1 + 1 + 1 + 1)) 3 [45] with
              | false =>
                rw [hmD] at he HSD
                subst he
                rw [if_neg (by decide)] at HSD
                have hbad := stg6_bad HTE.out.1 hmD
                rw [HR.out] at hbad
                obtain ⟨RX, RS⟩ := R
                simp only at hbad
                subst hbad
                have HN := Lib.hid HSD.out.2.2.2.1
                have HZ := Lib.hid HSD.out.2.2.1
                have H4 : Hid ((stgCells (⟨0, 0, 0, 0⟩ : Stg)).toArray.size = 4) := Lib.hid rfl
                have HQR := Lib.hid (setRow_heap _ _ _ (stgCells (⟨yP.num, yQ.num, yB.num, 0⟩ : Stg)).toArray _ _ HSD.out.2.2.1)
                go_wp2_with (first
                  | ((with_reducible refine stg_load (w.heap.size + 1) 0 (⟨yP.num, yQ.num, yB.num, 0⟩ : Stg) ?hx (rangeAt_block HN.out) ?_); (case hx => rfl))
                  | ((with_reducible refine stg_put w.heap.size (⟨yP.num, yQ.num, yB.num, 0⟩ : Stg) ?hx ?hy HZ.out H4 ?_); (case hx => rfl); (case hy => rfl)))
                refine bodyPost_ret (v := .tuple #[.agg (stgCells (⟨yP.num, yQ.num, yB.num, 0⟩ : Stg)).toArray, .bool false]) ?_ rfl ⟨(⟨yP.num, yQ.num, yB.num, 0⟩ : Stg), rfl, nofun, ?_, ?_⟩
                · exact results_cell2 Tryd.results60 _ _ w.heap.size 0 (stgCells (⟨yP.num, yQ.num, yB.num, 0⟩ : Stg)) rfl (rangeAt_block HQR.out) Tryd.underlying52 rfl stg_info _ rfl
                · exact HSD.out.1.row (by omega) _
                · exact gb_setRow HSD.out.2.1 (.inr (Nat.le_refl _)) _
              | true =>
                rw [hmD] at he HSD
                subst he
                rw [if_pos rfl] at HSD
                have H6s := Lib.hid (stg6_ok HTE.out.1 hmD)
                have hkD : k + 1 + 1 + 1 + 1 + 1 + 1 + 1 < xs.length := lxEnds_next HEND.out hkB (by rw [lxIs, Bool.and_eq_true, beq_iff_eq] at hmD; rw [hmD.1]; decide)
                clear hmD
                go_wp2_with fail
                refine (number_sg HL.out hxm HSD.out hkD 0).mono ?_
                rintro e wE ⟨he, hstE⟩
                have HSE := Lib.hid hstE
                clear hstE
                obtain ⟨yE, hyE⟩ : ∃ y, lxAt xs (k + 1 + 1 + 1 + 1 + 1 + 1 + 1) = y := ⟨_, rfl⟩
                cases hmE : numOk (lxAt xs (k + 1 + 1 + 1 + 1 + 1 + 1 + 1)) 0 with
                | false =>
                  rw [hmE] at he HSE
                  subst he
                  rw [if_neg (by decide)] at HSE
                  have HSF := Lib.hid (HSE.out.set (j := 3) (v := .int .i64 0) (⟨yP.num, yQ.num, yB.num, 0⟩ : Stg) rfl)
                  have f0 := HSE.out.frozen 3
                  have f1 := HSE.out.cell 3 (.int .i64 0) rfl
                  have hlt9 := HSE.out.lt
                  have hbad := stg7_bad HNN.out H6s.out hkD hmE
                  rw [HR.out] at hbad
                  obtain ⟨RX, RS⟩ := R
                  simp only at hbad
                  subst hbad
                  have HN := Lib.hid HSF.out.2.2.2.1
                  have HZ := Lib.hid HSF.out.2.2.1
                  have H4 : Hid ((stgCells (⟨0, 0, 0, 0⟩ : Stg)).toArray.size = 4) := Lib.hid rfl
                  have HQR := Lib.hid (setRow_heap _ _ _ (stgCells (⟨yP.num, yQ.num, yB.num, 0⟩ : Stg)).toArray _ _ HSF.out.2.2.1)
                  go_wp2_with (first
                    | ((with_reducible refine stg_load (w.heap.size + 1) 0 (⟨yP.num, yQ.num, yB.num, 0⟩ : Stg) ?hx (rangeAt_block HN.out) ?_); (case hx => rfl))
                    | ((with_reducible refine stg_put w.heap.size (⟨yP.num, yQ.num, yB.num, 0⟩ : Stg) ?hx ?hy HZ.out H4 ?_); (case hx => rfl); (case hy => rfl)))
                  refine bodyPost_ret (v := .tuple #[.agg (stgCells (⟨yP.num, yQ.num, yB.num, 0⟩ : Stg)).toArray, .bool false]) ?_ rfl ⟨(⟨yP.num, yQ.num, yB.num, 0⟩ : Stg), rfl, nofun, ?_, ?_⟩
                  · exact results_cell2 Tryd.results60 _ _ w.heap.size 0 (stgCells (⟨yP.num, yQ.num, yB.num, 0⟩ : Stg)) rfl (rangeAt_block HQR.out) Tryd.underlying52 rfl stg_info _ rfl
                  · exact HSF.out.1.row (by omega) _
                  · exact gb_setRow HSF.out.2.1 (.inr (Nat.le_refl _)) _
                | true =>
                  rw [hmE, hyE] at he
                  rw [hmE] at HSE
                  subst he
                  rw [if_pos rfl] at HSE
                  have HDE := Lib.hid (stg7_ok H6s.out hmE)
                  have hkE : k + 1 + 1 + 1 + 1 + 1 + 1 + 1 + 1 < xs.length := lxEnds_next HEND.out hkD (by rw [numOk, Bool.and_eq_true, beq_iff_eq] at hmE; rw [hmE.1]; decide)
                  obtain ⟨x3, hx3⟩ : ∃ x3 : Stg, (⟨yP.num, yQ.num, yB.num, yE.num⟩ : Stg) = x3 := ⟨_, rfl⟩
                  have HSF := Lib.hid (show SgSt w (wE.setCell ⟨w.heap.size + 1, 3, none⟩ (.int .i64 yE.num)) rb lv _ (⟨0, 0, 0, 0⟩ : Stg) x3 by rw [← hx3]; exact HSE.out.set (j := 3) (v := .int .i64 yE.num) (⟨yP.num, yQ.num, yB.num, yE.num⟩ : Stg) rfl)
                  have HX3 := Lib.hid hx3
                  have f0 := HSE.out.frozen 3
                  have f1 := HSE.out.cell 3 (.int .i64 0) rfl
                  have hlt9 := HSE.out.lt
                  have HYE := Lib.hid hyE
                  clear hmE hyE hx3
                  go_wp2_with fail
                  have HRX := Lib.hid (show R.1 = x3 by
                    rw [← HX3.out, ← HR.out]
                    exact stg_ext (stg_parts HP1.out HP2.out).1 (stg_parts HP1.out HP2.out).2 (HTE.out.2.trans (by rw [HYB.out])) (HDE.out.2.trans (by rw [HYE.out])))
                  have h8 := stg8_of HDE.out.1
                  rw [HR.out] at h8
                  obtain ⟨m, hm⟩ : ∃ m, lxIs (lxAt xs (k + 1 + 1 + 1 + 1 + 1 + 1 + 1 + 1)) 3 [59] = m := ⟨_, rfl⟩
                  rw [hm] at h8
                  have H8 := Lib.hid h8
                  have HM := Lib.hid hm
                  clear h8
                  obtain ⟨W9, hW9⟩ : ∃ W9, wE.setCell ⟨w.heap.size + 1, 3, none⟩ (.int .i64 yE.num) = W9 := ⟨_, rfl⟩
                  rw [hW9] at HSF
                  rw [hW9]
                  clear hW9 hm f0 f1 hlt9
                  have hlt9 := HSF.out.lt
                  obtain ⟨⟨p0, p1, p2, p3⟩, ⟨z0, z1, z2, z3⟩, ⟨y0, y1, y2, y3⟩⟩ := HSF.out.all
                  go_region_with (first
                    | (go_at_call 58; refine (skip_sg HL.out hxm HSF.out.drew hkE 3 ⟨#[59]⟩ [59] rfl).mono ?_; rintro e wf ⟨he, hstf⟩; rw [HM.out] at he hstf; subst he; have HF := Lib.hid hstf; have hltf := hstf.lt; obtain ⟨⟨pa0, pa1, pa2, pa3⟩, ⟨za0, za1, za2, za3⟩, ⟨ya0, ya1, ya2, ya3⟩⟩ := hstf.all; clear hstf)
                    | (go_at_call 58; refine (skip_sg HL.out hxm (HSF.out.drew.put x3) hkE 3 ⟨#[59]⟩ [59] rfl).mono ?_; rintro e wf ⟨he, hstf⟩; rw [HM.out] at he hstf; subst he; have HG := Lib.hid hstf; clear hstf))
                  all_goals
                    go_wp2_with fail
                    first
                      | (refine bodyPost_ret (v := .tuple #[.agg (stgCells x3).toArray, .bool m]) ?_ rfl ⟨x3, ?_, fun _ => HRX.out.symm, ?_, ?_⟩
                         · exact results_cell2 Tryd.results60 _ _ w.heap.size 0 (stgCells x3) rfl (rangeAt_block (HF.out.put x3).2.2.1) Tryd.underlying52 rfl stg_info _ rfl
                         · rw [H8.out]; cases m <;> rfl
                         · rw [H8.out]; have h9 := (HF.out.put x3).1; cases m <;> exact h9
                         · exact (HF.out.put x3).2.1)
                      | (refine bodyPost_ret (v := .tuple #[.agg (stgCells x3).toArray, .bool m]) ?_ rfl ⟨x3, ?_, fun _ => HRX.out.symm, ?_, ?_⟩
                         · exact results_cell2 Tryd.results60 _ _ w.heap.size 0 (stgCells x3) rfl (rangeAt_block HG.out.2.2.1) Tryd.underlying52 rfl stg_info _ rfl
                         · rw [H8.out]; cases m <;> rfl
                         · rw [H8.out]; have h9 := HG.out.1; cases m <;> exact h9
                         · exact HG.out.2.1)

end Go.Proofs.YtabdlldkkcjppaaDoor

namespace Saw
theorem stgsS_stop {xs : List Lx} {s : Nat × Bool} (h : s.2 = true ∨ (lxAt xs s.1).kind = 0 ∨ lxIs (lxAt xs s.1) 1 scheduleW = true) (n : Nat) (acc : List Stg) : stgsS xs n s acc = (acc, s) := by
  cases n with
  | zero => rfl
  | succ n => rw [stgsS, if_pos h]
theorem sc5_badE {xs : List Lx} {s : Nat × Bool} {j : Nat} (h : sc5 xs s = (j, true)) : (scS xs s).2 = (j, true) := by
  show (stgsS xs xs.length (sc5 xs s) []).2 = _
  rw [stgsS_stop (.inl (by rw [h])), h]
theorem sc1_bad {xs : List Lx} {k : Nat} (h : lxIs (lxAt xs k) 1 scheduleW = false) : (scS xs (k, false)).2 = (k, true) := by
  refine sc5_badE ?_
  unfold sc5 sc4 sc3 sc2 sc1
  rw [nextW_f (by decide) h]
  simp only [nextS_failed]
theorem sc1_ok {xs : List Lx} {k : Nat} (h : lxIs (lxAt xs k) 1 scheduleW = true) : sc1 xs (k, false) = (k + 1, false) := nextW_t (by decide) h
theorem nextK_t {xs : List Lx} {j : Nat} (h : (lxAt xs j).kind = 1) : nextS xs (j, false) (1, []) = (j + 1, false) ∧ lexS xs (j, false) (1, []) = lxAt xs j := by
  have ho : okS xs (j, false) (1, []) = true := by simp [okS, lxFits, h]
  rw [nextS, lexS, if_pos ho, if_pos ho]
  exact ⟨rfl, rfl⟩
theorem nextK_f {xs : List Lx} {j : Nat} (h : (lxAt xs j).kind ≠ 1) : nextS xs (j, false) (1, []) = (j, true) := by
  rw [nextS, if_neg]
  simp [okS, lxFits, h]
theorem sc2_bad {xs : List Lx} {s : Nat × Bool} {j : Nat} (h1 : sc1 xs s = (j, false)) (h : (lxAt xs j).kind ≠ 1) : (scS xs s).2 = (j, true) := by
  refine sc5_badE ?_
  unfold sc5 sc4 sc3 sc2
  rw [h1, nextK_f h]
  simp only [nextS_failed]
theorem sc2_ok {xs : List Lx} {s : Nat × Bool} {j : Nat} (h1 : sc1 xs s = (j, false)) (h : (lxAt xs j).kind = 1) : sc2 xs s = (j + 1, false) ∧ (scS xs s).1.name = (lxAt xs j).text := by
  refine ⟨by rw [sc2, h1, (nextK_t h).1], ?_⟩
  show (lexS xs (sc1 xs s) (1, [])).text = _
  rw [h1, (nextK_t h).2]
theorem sc3_bad {xs : List Lx} {s : Nat × Bool} {j : Nat} (h2 : sc2 xs s = (j, false)) (h : lxIs (lxAt xs j) 1 rampW = false) : (scS xs s).2 = (j, true) := by
  refine sc5_badE ?_
  unfold sc5 sc4 sc3
  rw [h2, nextW_f (by decide) h]
  simp only [nextS_failed]
theorem sc3_ok {xs : List Lx} {s : Nat × Bool} {j : Nat} (h2 : sc2 xs s = (j, false)) (h : lxIs (lxAt xs j) 1 rampW = true) : sc3 xs s = (j + 1, false) := by
  rw [sc3, h2, nextW_t (by decide) h]
theorem sc4_bad {xs : List Lx} (hn : ∀ x ∈ xs, 0 ≤ x.num) {s : Nat × Bool} {j : Nat} (h3 : sc3 xs s = (j, false)) (hj : j < xs.length) (h : numOk (lxAt xs j) 0 = false) : (scS xs s).2 = (j, true) := by
  refine sc5_badE ?_
  unfold sc5 sc4
  rw [h3, nextN_f hn hj h]
  simp only [nextS_failed]
theorem sc4_ok {xs : List Lx} {s : Nat × Bool} {j : Nat} (h3 : sc3 xs s = (j, false)) (h : numOk (lxAt xs j) 0 = true) : sc4 xs s = (j + 1, false) ∧ (scS xs s).1.ramp = (lxAt xs j).num := by
  refine ⟨by rw [sc4, h3, (nextN_t h).1], ?_⟩
  show (lexS xs (sc3 xs s) (2, [])).num = _
  rw [h3, (nextN_t h).2]
theorem sc5_bad {xs : List Lx} {s : Nat × Bool} {j : Nat} (h4 : sc4 xs s = (j, false)) (h : lxIs (lxAt xs j) 3 [58] = false) : (scS xs s).2 = (j, true) := by
  refine sc5_badE ?_
  rw [sc5, h4, nextW_f (by decide) h]
theorem sc5_ok {xs : List Lx} {s : Nat × Bool} {j : Nat} (h4 : sc4 xs s = (j, false)) (h : lxIs (lxAt xs j) 3 [58] = true) : sc5 xs s = (j + 1, false) := by
  rw [sc5, h4, nextW_t (by decide) h]
theorem lxEnd_is {xs : List Lx} {j : Nat} (hz : ∀ x ∈ xs, x.kind = 0 → x.text = []) (hj : j < xs.length) : lxIs (lxAt xs j) 0 [] = decide ((lxAt xs j).kind = 0) := by
  have h0 := hz _ (List.mem_of_getElem? (lxAt_some hj))
  rw [lxIs]
  by_cases h : (lxAt xs j).kind = 0
  · rw [h0 h, h]; rfl
  · rw [show ((lxAt xs j).kind == 0) = false by rw [beq_eq_false_iff_ne]; exact h, Bool.false_and]; exact (decide_eq_false h).symm
end Saw
namespace Go.Proofs.YtabdlldkkcjppaaDoor
open Go.RowKit Saw

theorem own_keep {w w' : World} {base size n : Nat} {e : TypeId} {v : Value} {xs : List Value} (h : w.ownsRow base e size v n xs) (hk : ∀ k, v.ownBlock = some k → w'.heap[k]? = w.heap[k]?) : w'.ownsRow base e size v n xs := by
  refine ⟨h.1, ?_⟩
  rcases h.2 with hn | ⟨g, cap, cur, rfl, hbg, hgg, rest⟩
  · exact .inl hn
  · exact .inr ⟨g, cap, cur, rfl, hbg, (hk g rfl).trans hgg, rest⟩
theorem own_lt {w : World} {base size n : Nat} {e : TypeId} {v : Value} {xs : List Value} (h : w.ownsRow base e size v n xs) : ∀ g, v.ownBlock = some g → base ≤ g ∧ g < w.heap.size := by
  intro g hg
  rcases h.2 with ⟨hn, _⟩ | ⟨g', cap, cur, rfl, hbg, hgg, rest⟩
  · subst hn; cases hg
  · have e : g' = g := by simpa [Value.ownBlock] using hg
    subst e
    exact ⟨hbg, (Array.getElem?_eq_some_iff.1 hgg).1⟩
theorem own_deeper {w : World} {base b size n : Nat} {e : TypeId} {v : Value} {xs : List Value} (h : w.ownsRow base e size v n xs) (hb : b ≤ base) : w.ownsRow b e size v n xs := by
  refine ⟨h.1, ?_⟩
  rcases h.2 with hn | ⟨g, cap, cur, rfl, hbg, hgg, rest⟩
  · exact .inl hn
  · exact .inr ⟨g, cap, cur, rfl, by omega, hgg, rest⟩
def OwnsSt (w : World) (base : Nat) (v : Value) (l : List Stg) : Prop := w.ownsRow base 52 4 v l.length (stgsCells l)
theorem OwnsSt.form {w : World} {base : Nat} {v : Value} {l : List Stg} (h : OwnsSt w base v l) : ∃ A c, v = .slice A l.length c := by
  obtain ⟨A, c, e, _⟩ := RdSt.form (Rd.of_own h)
  exact ⟨A, c, e⟩

/-- How memory stands while a schedule is read: the reader, the block of the result, the block of the schedule. -/
def ShSt (w W : World) (rb : Nat) (lv : Value) (k : Nat) (x : Sc) (v : Value) : Prop :=
  IsScR W rb lv k ∧ w.grownBy W (some rb) ∧ W.heap[w.heap.size]? = some (.cells (scCells Sc.zero (.slice none 0 0)).toArray 24 (0, 0)) ∧ W.heap[w.heap.size + 1]? = some (.cells (scCells x v).toArray 24 (0, 0)) ∧ rb < w.heap.size
section
variable {w W W' : World} {rb k k' : Nat} {lv v : Value} {x : Sc}
theorem ShSt.gb (h : ShSt w W rb lv k x v) (hr : IsScR W' rb lv k') (hg : W.grownBy W' (some rb)) : ShSt w W' rb lv k' x v := by
  obtain ⟨h1, h2, h3, h4, h5⟩ := h
  exact ⟨hr, gb_trans h2 hg, (hg.block _ (Array.getElem?_eq_some_iff.1 h3).1 (fun e => by injection e; omega)).trans h3, (hg.block _ (Array.getElem?_eq_some_iff.1 h4).1 (fun e => by injection e; omega)).trans h4, h5⟩
theorem ShSt.lt (h : ShSt w W rb lv k x v) : w.heap.size + 1 < W.heap.size := (Array.getElem?_eq_some_iff.1 h.2.2.2.1).1
theorem ShSt.below (h : ShSt w W rb lv k x v) (hb : Below W.heap.size W W') : ShSt w W' rb lv k x v := by
  have := h.lt
  have := h.2.2.2.2
  exact h.gb (h.1.below hb (by omega)) (gb_belowS gb_refl hb)
theorem ShSt.alloc (h : ShSt w W rb lv k x v) (o : Obj) : ShSt w (W.alloc o) rb lv k x v := h.below ((Below.refl _ _).alloc (Nat.le_refl _) _)
theorem ShSt.pos (h : ShSt w W rb lv k x v) (j : Nat) : ShSt w (W.setCell ⟨rb, 1, none⟩ (.int .i64 j)) rb lv j x v := by
  exact h.gb (h.1.set j) (gb_set gb_refl _)
theorem ShSt.set (h : ShSt w W rb lv k x v) (y : Sc) (u : Value) {j : Nat} {a : Value} (hy : (scCells x v).toArray.setIfInBounds j a = (scCells y u).toArray) : ShSt w (W.setCell ⟨w.heap.size + 1, j, none⟩ a) rb lv k y u := by
  obtain ⟨h1, h2, h3, h4, h5⟩ := h
  refine ⟨h1.setO (by omega) _, gb_setOther h2 (by omega) _, hpS h3 (by omega) _, ?_, h5⟩
  rw [setCell_eq_setRow W _ j _ _ _ _ h4, setRow_heap _ _ _ _ _ _ h4, hy]
theorem ShSt.cell (h : ShSt w W rb lv k x v) (j : Nat) (u : Value) (hv : (scCells x v).toArray[j]? = some u) : W.cell? ⟨w.heap.size + 1, j, none⟩ = some u := by
  rw [cell_of_row W _ j _ _ (0, 0) h.2.2.2.1]; exact hv
theorem ShSt.frozen (h : ShSt w W rb lv k x v) (j : Nat) : W.frozen? ⟨w.heap.size + 1, j, none⟩ = false := by simp [World.frozen?, h.2.2.2.1]
/-- A row of the call's own has grown. -/
theorem ShSt.grow (h : ShSt w W rb lv k x v) {row : Option Nat} (hg : W.grownBy W' row) (hr : ∀ g, row = some g → w.heap.size + 2 ≤ g) : ShSt w W' rb lv k x v := by
  obtain ⟨h1, h2, h3, h4, h5⟩ := h
  have hk : ∀ k, k < w.heap.size + 2 → some k ≠ row := fun k hk e => by have := hr k e.symm; omega
  exact ⟨(hg.block rb (Array.getElem?_eq_some_iff.1 h1).1 (hk _ (by omega))).trans h1,
    ⟨hg.os.trans h2.os, hg.tape.trans h2.tape, hg.output.trans h2.output, Nat.le_trans h2.size hg.size, fun k hk1 hne => (hg.block k (Nat.lt_of_lt_of_le hk1 h2.size) (hk _ (by omega))).trans (h2.block k hk1 hne)⟩,
    (hg.block _ (Array.getElem?_eq_some_iff.1 h3).1 (hk _ (by omega))).trans h3, (hg.block _ (Array.getElem?_eq_some_iff.1 h4).1 (hk _ (by omega))).trans h4, h5⟩
theorem ShSt.rd (h : ShSt w W rb lv k x v) {xs : List Lx} (hl : Rd w rb 4 lv xs.length (lxsCells xs)) : Rd W rb 4 lv xs.length (lxsCells xs) := hl.gb h.2.1 (Nat.le_refl _) (by have := h.2.2.2.2; omega)
theorem ShSt.rdS (h : ShSt w W rb lv k x v) {xs : List Lx} (hl : Rd w rb 4 lv xs.length (lxsCells xs)) : Rd W W.heap.size 4 lv xs.length (lxsCells xs) := (h.rd hl).more (by have := h.lt; have := h.2.2.2.2; omega)
end
section
variable {w W : World} {rb : Nat} {lv v : Value} {k : Nat} {x : Sc} {xs : List Lx}
theorem skip_sh (hl : Rd w rb 4 lv xs.length (lxsCells xs)) (hxl : xs.length < 1000000) (hst : ShSt w W rb lv k x v) (hkx : k < xs.length) (kind : Int) (t : ByteArray) (p : List UInt8) (hp : bts t = p) :
    Calls Tryd.prog 58 #[.pointer (some ⟨rb, 0, none⟩), .int .i64 kind, .string t] W fun e W' => e = .returned (.bool (lxIs (lxAt xs k) kind p)) ∧ ShSt w W' rb lv (if lxIs (lxAt xs k) kind p then k + 1 else k) x v := by
  subst hp
  refine (skip_sc W rb lv k xs kind t hst.1 (hst.rdS hl) hkx hxl).mono ?_
  rintro e W' ⟨he, hr, hg⟩
  exact ⟨he, hst.gb hr hg⟩
theorem number_sh (hl : Rd w rb 4 lv xs.length (lxsCells xs)) (hxl : xs.length < 1000000) (hst : ShSt w W rb lv k x v) (hkx : k < xs.length) (least : Int) :
    Calls Tryd.prog 59 #[.pointer (some ⟨rb, 0, none⟩), .int .i64 least] W fun e W' => e = .returned (.tuple #[.int .i64 (if numOk (lxAt xs k) least then (lxAt xs k).num else 0), .bool (numOk (lxAt xs k) least)]) ∧ ShSt w W' rb lv (if numOk (lxAt xs k) least then k + 1 else k) x v := by
  refine (number_sc W rb lv k xs least hst.1 (hst.rdS hl) hkx hxl).mono ?_
  rintro e W' ⟨he, hr, hg⟩
  exact ⟨he, hst.gb hr hg⟩
theorem next_sh (hl : Rd w rb 4 lv xs.length (lxsCells xs)) (hxl : xs.length < 1000000) (hst : ShSt w W rb lv k x v) (hkx : k < xs.length) :
    Calls Tryd.prog 44 #[.pointer (some ⟨rb, 0, none⟩)] W fun e W' => e = .returned (.agg #[.int .i64 (lxAt xs k).kind, .string (str (lxAt xs k).text), .int .i64 (lxAt xs k).num, .int .i64 (lxAt xs k).off]) ∧ ShSt w W' rb lv k x v ∧ Below W.heap.size W W' := by
  refine (next_sc W rb lv k xs hst.1 (hst.rdS hl) hkx hxl).mono ?_
  rintro e W' ⟨he, hb⟩
  exact ⟨he, hst.below hb, hb⟩
theorem is_sh (hl : Rd w rb 4 lv xs.length (lxsCells xs)) (hxl : xs.length < 1000000) (hst : ShSt w W rb lv k x v) (hkx : k < xs.length) (kind : Int) (t : ByteArray) (p : List UInt8) (hp : bts t = p) :
    Calls Tryd.prog 43 #[.pointer (some ⟨rb, 0, none⟩), .int .i64 kind, .string t] W fun e W' => e = .returned (.bool (lxIs (lxAt xs k) kind p)) ∧ ShSt w W' rb lv k x v ∧ Below W.heap.size W W' := by
  subst hp
  refine (is_sc W rb lv k xs kind t hst.1 (hst.rdS hl) hkx hxl).mono ?_
  rintro e W' ⟨he, hb⟩
  exact ⟨he, hst.below hb, hb⟩
end
theorem scx_field0 (k n q : Int) (t : ByteArray) (W : World) : (Instr.field 76 (.agg #[.int .i64 k, .string t, .int .i64 n, .int .i64 q]) 0).run Tryd.prog W = .ok (.int .i64 k) W := by kernel_rfl
theorem scx_field1 (k n q : Int) (t : ByteArray) (W : World) : (Instr.field 76 (.agg #[.int .i64 k, .string t, .int .i64 n, .int .i64 q]) 1).run Tryd.prog W = .ok (.string t) W := by kernel_rfl
def SchedPost (w : World) (rb : Nat) (lv : Value) (R : Sc × (Nat × Bool)) (e : Ending) (w' : World) : Prop :=
  ∃ (x : Sc) (A : Option Addr) (c : Nat), e = .returned (.tuple #[.agg #[.string (str x.name), .int .i64 x.ramp, .slice A x.stages.length c], .bool (!R.2.2)]) ∧ (R.2.2 = false → x = R.1) ∧ OwnsSt w' w.heap.size (.slice A x.stages.length c) x.stages ∧ IsScR w' rb lv R.2.1 ∧ w.grownBy w' (some rb)
/-- What holds ahead of a round of the loop. -/
def StgRel (w : World) (rb : Nat) (lv : Value) (xs : List Lx) (nm : List UInt8) (r : Int) (R : List Stg × (Nat × Bool)) (wr : World) : Prop :=
  ∃ (j : Nat) (l : List Stg) (A : Option Addr) (c : Nat), j < xs.length ∧ l.length ≤ j ∧ ShSt w wr rb lv j ⟨nm, r, l⟩ (.slice A l.length c) ∧ OwnsSt wr (w.heap.size + 2) (.slice A l.length c) l ∧ ∃ n, xs.length - j ≤ n ∧ stgsS xs n (j, false) l = R
def scLeft (xs : List Lx) (rb : Nat) (w : World) : Nat := match w.cell? ⟨rb, 1, none⟩ with | some (.int _ n) => xs.length - n.toNat | _ => 0
theorem scLeft_of {xs : List Lx} {w : World} {rb k : Nat} {lv : Value} (h : IsScR w rb lv k) : scLeft xs rb w = xs.length - k := by
  unfold scLeft
  simp only [h.cells.2.1]
  rw [Int.toNat_natCast]

set_option maxRecDepth 100000 in
set_option maxHeartbeats 2000000 in
theorem schedule_sc (w : World) (rb : Nat) (lv : Value) (k : Nat) (xs : List Lx) (hr : IsScR w rb lv k) (hl : Rd w rb 4 lv xs.length (lxsCells xs)) (hkx : k < xs.length) (hxm : xs.length < 1000000) (hend : LxEnds xs) (hnn : ∀ x ∈ xs, 0 ≤ x.num) (hze : ∀ x ∈ xs, x.kind = 0 → x.text = []) (hv : WordsS w) (hrg : 0 < rb) :
    Calls Tryd.prog 45 #[.pointer (some ⟨rb, 0, none⟩)] w (SchedPost w rb lv (scS xs (k, false))) := by
  obtain ⟨R, hR⟩ : ∃ R, scS xs (k, false) = R := ⟨_, rfl⟩
  rw [hR]
  have HR := Lib.hid hR
  have HL := Lib.hid hl
  have HEND := Lib.hid hend
  have HNN := Lib.hid hnn
  have HZE := Lib.hid hze
  have HV := Lib.hid hv
  have lf0 := scx_field0
  have lf1 := scx_field1
  have hrb : rb < w.heap.size := hr.cells.2.2.2
  have HS0 := Lib.hid (show ShSt w ((w.alloc (.cells #[.string ⟨#[]⟩, .int .i64 0, .slice none 0 0] 24)).alloc (.cells #[.string ⟨#[]⟩, .int .i64 0, .slice none 0 0] 24)) rb lv k ⟨[], 0, []⟩ (.slice none 0 0) from
    ⟨(hr.alloc _).alloc _, gb_alloc (gb_alloc gb_refl _) _, hpA (heap_alloc_last w _) _, by have h9 := heap_alloc_last (w.alloc (.cells #[.string ⟨#[]⟩, .int .i64 0, .slice none 0 0] 24)) (.cells #[.string ⟨#[]⟩, .int .i64 0, .slice none 0 0] 24); rw [World.size_alloc] at h9; exact h9, hrb⟩)
  clear hr hl hend hnn hv hR hze
  go_enter Tryd.func45, Tryd.ntmps45
  go_wp2_with fail
  refine (skip_sh HL.out hxm HS0.out hkx 1 _ scheduleW rfl).mono ?_
  rintro e w1 ⟨he, hst1⟩
  have HS1 := Lib.hid hst1
  clear hst1
  cases hm1 : lxIs (lxAt xs k) 1 scheduleW with
  | false =>
    rw [hm1] at he HS1
    subst he
    rw [if_neg (by decide)] at HS1
    have hbad := sc1_bad hm1
    rw [HR.out] at hbad
    obtain ⟨RX, RS⟩ := R
    simp only at hbad
    subst hbad
    have HN := Lib.hid HS1.out.2.2.2.1
    have HZ := Lib.hid HS1.out.2.2.1
    have H3 : Hid ((scCells Sc.zero (.slice none 0 0)).toArray.size = 3) := Lib.hid rfl
    have HQR := Lib.hid (setRow_heap _ _ _ (scCells (⟨[], 0, []⟩ : Sc) (.slice none 0 0)).toArray _ _ HS1.out.2.2.1)
    go_wp2_with (first
      | ((with_reducible refine sc_load (w.heap.size + 1) 0 (⟨[], 0, []⟩ : Sc) (.slice none 0 0) ?hx (rangeAt_block HN.out) ?_); (case hx => rfl))
      | ((with_reducible refine sc_put w.heap.size (⟨[], 0, []⟩ : Sc) (.slice none 0 0) rfl ?hx ?hy HZ.out H3 ?_); (case hx => rfl); (case hy => rfl)))
    
    refine bodyPost_ret (v := .tuple #[.agg (scCells (⟨[], 0, []⟩ : Sc) (.slice none 0 0)).toArray, .bool false]) ?_ rfl ⟨(⟨[], 0, []⟩ : Sc), none, 0, rfl, nofun, ?_, ?_, ?_⟩
    · exact results_cell2 Tryd.results45 _ _ w.heap.size 0 (scCells (⟨[], 0, []⟩ : Sc) (.slice none 0 0)) rfl (rangeAt_block HQR.out) Tryd.underlying24 rfl sc_info _ rfl
    · exact World.ownsRow_nil _ _ _ _
    · exact HS1.out.1.row (by omega) _
    · exact gb_setRow HS1.out.2.1 (.inr (Nat.le_refl _)) _
  | true =>
    rw [hm1] at he HS1
    subst he
    rw [if_pos rfl] at HS1
    have hk1 : k + 1 < xs.length := lxEnds_next HEND.out hkx (by have h9 := hm1; rw [lxIs, Bool.and_eq_true, beq_iff_eq] at h9; rw [h9.1]; decide)
    have H1 := Lib.hid (sc1_ok hm1)
    clear hm1
    go_wp2_with fail
    refine (next_sh HL.out hxm HS1.out hk1).mono ?_
    rintro e w2 ⟨he, hst2, _⟩
    have HS2 := Lib.hid hst2
    clear hst2
    obtain ⟨y1, hy1⟩ : ∃ y, lxAt xs (k + 1) = y := ⟨_, rfl⟩
    rw [hy1] at he
    subst he
    by_cases hk2 : y1.kind = 1
    · have hkb : (y1.kind != 1) = false := by rw [bne_eq_false_iff_eq]; exact hk2
      have H2 := Lib.hid (sc2_ok H1.out (by rw [hy1]; exact hk2))
      have hk1' : k + 1 + 1 < xs.length := lxEnds_next HEND.out hk1 (by rw [hy1, hk2]; decide)
      have HY1 := Lib.hid hy1
      clear hk2 hy1
      go_wp2_with fail
      refine (next_sh HL.out hxm HS2.out hk1).mono ?_
      rintro e w3 ⟨he, hst3, _⟩
      rw [HY1.out] at he
      subst he
      have HS3 := Lib.hid (hst3.set (j := 0) (a := .string (str y1.text)) ⟨y1.text, 0, []⟩ (.slice none 0 0) rfl)
      have HS4 := Lib.hid (HS3.out.pos (k + 1 + 1))
      have f0 := hst3.frozen 0
      have f1 := hst3.cell 0 (.string (str [])) rfl
      have hlt3 := hst3.lt
      obtain ⟨c0, c1, fr1, hrs⟩ := hst3.1.cells
      clear hst3
      have hne1 : rb ≠ w.heap.size + 1 := by omega
      have hne2 : w.heap.size + 1 ≠ rb := by omega
      go_wp2_with fail
      clear f0 f1 hlt3 c0 c1 fr1 hrs
      obtain ⟨W4, hW4⟩ : ∃ W4, (w3.setCell ⟨w.heap.size + 1, 0, none⟩ (.string (str y1.text))).setCell ⟨rb, 1, none⟩ (.int .i64 ((k + 1 + 1 : Nat) : Int)) = W4 := ⟨_, rfl⟩
      rw [hW4] at HS4
      have hW4' : (w3.setCell ⟨w.heap.size + 1, 0, none⟩ (.string (str y1.text))).setCell ⟨rb, 1, none⟩ (.int .i64 ((k : Int) + 1 + 1)) = W4 := by rw [← hW4]; rfl
      simp only [hW4']
      refine (skip_sh HL.out hxm HS4.out hk1' 1 _ rampW rfl).mono ?_
      rintro e w5 ⟨he, hst5⟩
      have HS5 := Lib.hid hst5
      clear hst5 hW4 hW4'
      cases hm5 : lxIs (lxAt xs (k + 1 + 1)) 1 rampW with
      | false =>
        rw [hm5] at he HS5
        subst he
        rw [if_neg (by decide)] at HS5
        have hbad := sc3_bad H2.out.1 hm5
        rw [HR.out] at hbad
        obtain ⟨RX, RS⟩ := R
        simp only at hbad
        subst hbad
        have HN := Lib.hid HS5.out.2.2.2.1
        have HZ := Lib.hid HS5.out.2.2.1
        have H3 : Hid ((scCells Sc.zero (.slice none 0 0)).toArray.size = 3) := Lib.hid rfl
        have HQR := Lib.hid (setRow_heap _ _ _ (scCells (⟨y1.text, 0, []⟩ : Sc) (.slice none 0 0)).toArray _ _ HS5.out.2.2.1)
        go_wp2_with (first
          | ((with_reducible refine sc_load (w.heap.size + 1) 0 (⟨y1.text, 0, []⟩ : Sc) (.slice none 0 0) ?hx (rangeAt_block HN.out) ?_); (case hx => rfl))
          | ((with_reducible refine sc_put w.heap.size (⟨y1.text, 0, []⟩ : Sc) (.slice none 0 0) rfl ?hx ?hy HZ.out H3 ?_); (case hx => rfl); (case hy => rfl)))
        
        refine bodyPost_ret (v := .tuple #[.agg (scCells (⟨y1.text, 0, []⟩ : Sc) (.slice none 0 0)).toArray, .bool false]) ?_ rfl ⟨(⟨y1.text, 0, []⟩ : Sc), none, 0, rfl, nofun, ?_, ?_, ?_⟩
        · exact results_cell2 Tryd.results45 _ _ w.heap.size 0 (scCells (⟨y1.text, 0, []⟩ : Sc) (.slice none 0 0)) rfl (rangeAt_block HQR.out) Tryd.underlying24 rfl sc_info _ rfl
        · exact World.ownsRow_nil _ _ _ _
        · exact HS5.out.1.row (by omega) _
        · exact gb_setRow HS5.out.2.1 (.inr (Nat.le_refl _)) _
      | true =>
        rw [hm5] at he HS5
        subst he
        rw [if_pos rfl] at HS5
        have hk3 : k + 1 + 1 + 1 < xs.length := lxEnds_next HEND.out hk1' (by have h9 := hm5; rw [lxIs, Bool.and_eq_true, beq_iff_eq] at h9; rw [h9.1]; decide)
        have H3s := Lib.hid (sc3_ok H2.out.1 hm5)
        clear hm5
        go_wp2_with fail
        refine (number_sh HL.out hxm HS5.out hk3 0).mono ?_
        rintro e w6 ⟨he, hst6⟩
        have HS6 := Lib.hid hst6
        clear hst6
        obtain ⟨y2, hy2⟩ : ∃ y, lxAt xs (k + 1 + 1 + 1) = y := ⟨_, rfl⟩
        cases hm6 : numOk (lxAt xs (k + 1 + 1 + 1)) 0 with
        | false =>
          rw [hm6] at he HS6
          subst he
          rw [if_neg (by decide)] at HS6
          have hbad := sc4_bad HNN.out H3s.out hk3 hm6
          rw [HR.out] at hbad
          obtain ⟨RX, RS⟩ := R
          simp only at hbad
          subst hbad
          have HN := Lib.hid HS6.out.2.2.2.1
          have HZ := Lib.hid HS6.out.2.2.1
          have H3 : Hid ((scCells Sc.zero (.slice none 0 0)).toArray.size = 3) := Lib.hid rfl
          have HQR := Lib.hid (setRow_heap _ _ _ (scCells (⟨y1.text, 0, []⟩ : Sc) (.slice none 0 0)).toArray _ _ HS6.out.2.2.1)
          go_wp2_with (first
            | ((with_reducible refine sc_load (w.heap.size + 1) 0 (⟨y1.text, 0, []⟩ : Sc) (.slice none 0 0) ?hx (rangeAt_block HN.out) ?_); (case hx => rfl))
            | ((with_reducible refine sc_put w.heap.size (⟨y1.text, 0, []⟩ : Sc) (.slice none 0 0) rfl ?hx ?hy HZ.out H3 ?_); (case hx => rfl); (case hy => rfl)))
          
          refine bodyPost_ret (v := .tuple #[.agg (scCells (⟨y1.text, 0, []⟩ : Sc) (.slice none 0 0)).toArray, .bool false]) ?_ rfl ⟨(⟨y1.text, 0, []⟩ : Sc), none, 0, rfl, nofun, ?_, ?_, ?_⟩
          · exact results_cell2 Tryd.results45 _ _ w.heap.size 0 (scCells (⟨y1.text, 0, []⟩ : Sc) (.slice none 0 0)) rfl (rangeAt_block HQR.out) Tryd.underlying24 rfl sc_info _ rfl
          · exact World.ownsRow_nil _ _ _ _
          · exact HS6.out.1.row (by omega) _
          · exact gb_setRow HS6.out.2.1 (.inr (Nat.le_refl _)) _
        | true =>
          rw [hm6, hy2] at he
          rw [hm6] at HS6
          subst he
          rw [if_pos rfl] at HS6
          have hk4 : k + 1 + 1 + 1 + 1 < xs.length := lxEnds_next HEND.out hk3 (by have h9 := hm6; rw [numOk, Bool.and_eq_true, beq_iff_eq] at h9; rw [h9.1]; decide)
          have H4s := Lib.hid (sc4_ok H3s.out hm6)
          have HY2 := Lib.hid hy2
          clear hm6 hy2
          go_wp2_with fail
          refine (skip_sh HL.out hxm HS6.out hk4 3 _ [58] rfl).mono ?_
          rintro e w7 ⟨he, hst7⟩
          have HS7 := Lib.hid hst7
          clear hst7
          cases hm7 : lxIs (lxAt xs (k + 1 + 1 + 1 + 1)) 3 [58] with
          | false =>
            rw [hm7] at he HS7
            subst he
            rw [if_neg (by decide)] at HS7
            have hbad := sc5_bad H4s.out.1 hm7
            rw [HR.out] at hbad
            obtain ⟨RX, RS⟩ := R
            simp only at hbad
            subst hbad
            have HN := Lib.hid HS7.out.2.2.2.1
            have HZ := Lib.hid HS7.out.2.2.1
            have H3 : Hid ((scCells Sc.zero (.slice none 0 0)).toArray.size = 3) := Lib.hid rfl
            have HQR := Lib.hid (setRow_heap _ _ _ (scCells (⟨y1.text, 0, []⟩ : Sc) (.slice none 0 0)).toArray _ _ HS7.out.2.2.1)
            go_wp2_with (first
              | ((with_reducible refine sc_load (w.heap.size + 1) 0 (⟨y1.text, 0, []⟩ : Sc) (.slice none 0 0) ?hx (rangeAt_block HN.out) ?_); (case hx => rfl))
              | ((with_reducible refine sc_put w.heap.size (⟨y1.text, 0, []⟩ : Sc) (.slice none 0 0) rfl ?hx ?hy HZ.out H3 ?_); (case hx => rfl); (case hy => rfl)))
            
            refine bodyPost_ret (v := .tuple #[.agg (scCells (⟨y1.text, 0, []⟩ : Sc) (.slice none 0 0)).toArray, .bool false]) ?_ rfl ⟨(⟨y1.text, 0, []⟩ : Sc), none, 0, rfl, nofun, ?_, ?_, ?_⟩
            · exact results_cell2 Tryd.results45 _ _ w.heap.size 0 (scCells (⟨y1.text, 0, []⟩ : Sc) (.slice none 0 0)) rfl (rangeAt_block HQR.out) Tryd.underlying24 rfl sc_info _ rfl
            · exact World.ownsRow_nil _ _ _ _
            · exact HS7.out.1.row (by omega) _
            · exact gb_setRow HS7.out.2.1 (.inr (Nat.le_refl _)) _
          | true =>
            rw [hm7] at he HS7
            subst he
            rw [if_pos rfl] at HS7
            have hk5 : k + 1 + 1 + 1 + 1 + 1 < xs.length := lxEnds_next HEND.out hk4 (by have h9 := hm7; rw [lxIs, Bool.and_eq_true, beq_iff_eq] at h9; rw [h9.1]; decide)
            have H5s := Lib.hid (sc5_ok H4s.out.1 hm7)
            obtain ⟨RR, hRR⟩ : ∃ RR, stgsS xs xs.length (k + 1 + 1 + 1 + 1 + 1, false) [] = RR := ⟨_, rfl⟩
            have HRQ := Lib.hid (show R = (⟨y1.text, y2.num, RR.1⟩, RR.2) by
              rw [← HR.out, ← hRR, ← H5s.out]
              have e1 := H2.out.2
              have e2 := H4s.out.2
              rw [HY1.out] at e1
              rw [HY2.out] at e2
              rw [← e1, ← e2]
              rfl)
            have HRR := Lib.hid hRR
            have HS8 := Lib.hid (HS7.out.set (j := 1) (a := .int .i64 y2.num) ⟨y1.text, y2.num, []⟩ (.slice none 0 0) rfl)
            have f0 := HS7.out.frozen 1
            have f1 := HS7.out.cell 1 (.int .i64 0) rfl
            have hlt7 := HS7.out.lt
            clear hm7 hRR HR H1 H2 H3s H4s H5s HS1 HS2 HS3 HS4 HS5 HS6
            go_wp2_with fail
            clear f0 f1 hlt7
            go_loopw [49] (fun _ wr => StgRel w rb lv xs y1.text y2.num RR wr) (fun _ wr => scLeft xs rb wr)
            case atStart => exact ⟨_, [], none, 0, hk5, Nat.zero_le _, HS8.out, World.ownsRow_nil _ _ _ _, xs.length, by omega, HRR.out⟩
            case round =>
              obtain ⟨j, l, A, c, hj, hlj, hst, hown, n, hn, hRn⟩ := hrel
              have HST := Lib.hid hst
              have HO := Lib.hid hown
              have HLF := Lib.hid (scLeft_of (xs := xs) hst.1)
              have hltr := hst.lt
              have HRN := Lib.hid hRn
              clear hst hown hRn HS7 HS8
              have hie := lxEnd_is HZE.out hj
              go_wp2_with fail
              refine (is_sh HL.out hxm HST.out hj 0 _ [] rfl).mono ?_
              rintro e w1 ⟨he, hst1, hb1⟩
              have HS1 := Lib.hid hst1
              have HO1 := Lib.hid (own_keep HO.out (fun g hg => hb1.block g (own_lt HO.out g hg).2))
              clear hst1 hb1
              rw [hie] at he
              by_cases hk0 : (lxAt xs j).kind = 0
              · rw [decide_eq_true hk0] at he
                subst he
                clear hie
                have hre : RR = (l, (j, false)) := by rw [← HRN.out, stgsS_stop (.inr (.inl hk0))]
                have hrq := HRQ.out
                rw [hre] at hrq
                subst hrq
                have HRX := Lib.hid (show (⟨y1.text, y2.num, l⟩ : Sc) = (⟨y1.text, y2.num, l⟩ : Sc) from rfl)
                clear hre HRQ
                have HN := Lib.hid HS1.out.2.2.2.1
                have HZ := Lib.hid HS1.out.2.2.1
                have H3 : Hid ((scCells Sc.zero (.slice none 0 0)).toArray.size = 3) := Lib.hid rfl
                have HQR := Lib.hid (setRow_heap _ _ _ (scCells (⟨y1.text, y2.num, l⟩ : Sc) (.slice A l.length c)).toArray _ _ HS1.out.2.2.1)
                go_wp2_with (first
                  | ((with_reducible refine sc_load (w.heap.size + 1) 0 (⟨y1.text, y2.num, l⟩ : Sc) (.slice A l.length c) ?hx (rangeAt_block HN.out) ?_); (case hx => rfl))
                  | ((with_reducible refine sc_put w.heap.size (⟨y1.text, y2.num, l⟩ : Sc) (.slice A l.length c) rfl ?hx ?hy HZ.out H3 ?_); (case hx => rfl); (case hy => rfl)))
                
                refine bodyPost_ret (v := .tuple #[.agg (scCells (⟨y1.text, y2.num, l⟩ : Sc) (.slice A l.length c)).toArray, .bool true]) ?_ rfl ⟨(⟨y1.text, y2.num, l⟩ : Sc), A, c, rfl, fun _ => rfl, ?_, ?_, ?_⟩
                · exact results_cell2 Tryd.results45 _ _ w.heap.size 0 (scCells (⟨y1.text, y2.num, l⟩ : Sc) (.slice A l.length c)) rfl (rangeAt_block HQR.out) Tryd.underlying24 rfl sc_info _ rfl
                · exact own_keep (own_deeper HO1.out (by omega)) (fun g hg => setRow_other _ _ _ _ (by have := (own_lt HO1.out g hg).1; omega))
                · exact HS1.out.1.row (by omega) _
                · exact gb_setRow HS1.out.2.1 (.inr (Nat.le_refl _)) _
              · rw [decide_eq_false hk0] at he
                subst he
                clear hie
                go_wp2_with fail
                refine (is_sh HL.out hxm HS1.out hj 1 _ scheduleW rfl).mono ?_
                rintro e w2 ⟨he, hst2, hb2⟩
                have HS2 := Lib.hid hst2
                have HO2 := Lib.hid (own_keep HO1.out (fun g hg => hb2.block g (own_lt HO1.out g hg).2))
                clear hst2 hb2
                cases hms : lxIs (lxAt xs j) 1 scheduleW with
                | true =>
                  rw [hms] at he
                  subst he
                  have hre : RR = (l, (j, false)) := by rw [← HRN.out, stgsS_stop (.inr (.inr hms))]
                  have hrq := HRQ.out
                  rw [hre] at hrq
                  subst hrq
                  have HRX := Lib.hid (show (⟨y1.text, y2.num, l⟩ : Sc) = (⟨y1.text, y2.num, l⟩ : Sc) from rfl)
                  clear hre HRQ
                  have HN := Lib.hid HS2.out.2.2.2.1
                  have HZ := Lib.hid HS2.out.2.2.1
                  have H3 : Hid ((scCells Sc.zero (.slice none 0 0)).toArray.size = 3) := Lib.hid rfl
                  have HQR := Lib.hid (setRow_heap _ _ _ (scCells (⟨y1.text, y2.num, l⟩ : Sc) (.slice A l.length c)).toArray _ _ HS2.out.2.2.1)
                  go_wp2_with (first
                    | ((with_reducible refine sc_load (w.heap.size + 1) 0 (⟨y1.text, y2.num, l⟩ : Sc) (.slice A l.length c) ?hx (rangeAt_block HN.out) ?_); (case hx => rfl))
                    | ((with_reducible refine sc_put w.heap.size (⟨y1.text, y2.num, l⟩ : Sc) (.slice A l.length c) rfl ?hx ?hy HZ.out H3 ?_); (case hx => rfl); (case hy => rfl)))
                  
                  refine bodyPost_ret (v := .tuple #[.agg (scCells (⟨y1.text, y2.num, l⟩ : Sc) (.slice A l.length c)).toArray, .bool true]) ?_ rfl ⟨(⟨y1.text, y2.num, l⟩ : Sc), A, c, rfl, fun _ => rfl, ?_, ?_, ?_⟩
                  · exact results_cell2 Tryd.results45 _ _ w.heap.size 0 (scCells (⟨y1.text, y2.num, l⟩ : Sc) (.slice A l.length c)) rfl (rangeAt_block HQR.out) Tryd.underlying24 rfl sc_info _ rfl
                  · exact own_keep (own_deeper HO2.out (by omega)) (fun g hg => setRow_other _ _ _ _ (by have := (own_lt HO2.out g hg).1; omega))
                  · exact HS2.out.1.row (by omega) _
                  · exact gb_setRow HS2.out.2.1 (.inr (Nat.le_refl _)) _
                | false =>
                  rw [hms] at he
                  subst he
                  obtain ⟨n', rfl⟩ : ∃ n', n = n' + 1 := ⟨n - 1, by omega⟩
                  have HRM := Lib.hid (show stgsS xs n' (stgS xs (j, false)).2 (l ++ [(stgS xs (j, false)).1]) = RR by
                    have h9 := HRN.out
                    rw [stgsS, if_neg (by simp [hk0, hms])] at h9
                    exact h9)
                  have HIN := Lib.hid (show (stgS xs (j, false)).2.1 < xs.length from (stg_in HEND.out (s := (j, false)) hj).2.2.2.2.2.2.2)
                  have HGT := Lib.hid (stgS_gt (xs := xs) (s := (j, false)))
                  have HSB := Lib.hid (show (stgS xs (j, false)).2.2 = true → RR = (l ++ [(stgS xs (j, false)).1], (stgS xs (j, false)).2) from fun hb => by
                    rw [← HRM.out, stgsS_stop (.inl hb)])
                  clear hms hk0
                  go_wp2_with fail
                  refine (stage_sc w2 rb lv j xs HS2.out.1 (HS2.out.rd HL.out) hj hxm HEND.out HNN.out ?_ hrg).mono ?_
                  · have hg2 := HS2.out.2.1
                    exact ⟨fun i u hu => (World.cell?_of_block (a := ⟨0, 0 + i, none⟩) (hg2.block _ HV.out.2 (fun e => by injection e with e; rw [← e] at hrg; exact absurd hrg (Nat.lt_irrefl _)))).trans (HV.out.1 i u hu), Nat.lt_of_lt_of_le HV.out.2 hg2.size⟩
                  rintro e w3 ⟨y, he, hye, hr3, hg3⟩
                  obtain ⟨Sg, hSg⟩ : ∃ Sg, stgS xs (j, false) = Sg := ⟨_, rfl⟩
                  rw [hSg] at he hye hr3
                  rw [hSg] at HRM HIN HGT HSB
                  have HS3 := Lib.hid (HS2.out.gb hr3 hg3)
                  have HO3 := Lib.hid (own_keep HO2.out (fun g hg => hg3.block g (own_lt HO2.out g hg).2 (fun e => by injection e with e; have := (own_lt HO2.out g hg).1; omega)))
                  have HYE := Lib.hid hye
                  clear hye hr3 hg3 hSg
                  cases hbad : Sg.2.2 with
                  | true =>
                    rw [hbad] at he
                    subst he
                    have hrq := HRQ.out
                    rw [HSB.out hbad] at hrq
                    have HRS := Lib.hid (show R.2 = (Sg.2.1, true) by rw [hrq, ← hbad])
                    have HS4 := Lib.hid (HS3.out.alloc (.cells #[.int .i64 y.below, .int .i64 y.ticks, .int .i64 y.temp, .int .i64 y.dep] 52))
                    have HO4 := Lib.hid (World.ownsRow.alloc HO3.out (.cells #[.int .i64 y.below, .int .i64 y.ticks, .int .i64 y.temp, .int .i64 y.dep] 52))
                    have hlt3 := HS3.out.lt
                    obtain ⟨RX, RS⟩ := R
                    have hrs := HRS.out
                    simp only at hrs
                    subst hrs
                    clear hrq hbad HRS HRQ
                    have HN := Lib.hid HS4.out.2.2.2.1
                    have HZ := Lib.hid HS4.out.2.2.1
                    have H3 : Hid ((scCells Sc.zero (.slice none 0 0)).toArray.size = 3) := Lib.hid rfl
                    have HQR := Lib.hid (setRow_heap _ _ _ (scCells (⟨y1.text, y2.num, l⟩ : Sc) (.slice A l.length c)).toArray _ _ HS4.out.2.2.1)
                    go_wp2_with (first
                      | ((with_reducible refine sc_load (w.heap.size + 1) 0 (⟨y1.text, y2.num, l⟩ : Sc) (.slice A l.length c) ?hx (rangeAt_block HN.out) ?_); (case hx => rfl))
                      | ((with_reducible refine sc_put w.heap.size (⟨y1.text, y2.num, l⟩ : Sc) (.slice A l.length c) rfl ?hx ?hy HZ.out H3 ?_); (case hx => rfl); (case hy => rfl)))
                    
                    refine bodyPost_ret (v := .tuple #[.agg (scCells (⟨y1.text, y2.num, l⟩ : Sc) (.slice A l.length c)).toArray, .bool false]) ?_ rfl ⟨(⟨y1.text, y2.num, l⟩ : Sc), A, c, rfl, nofun, ?_, ?_, ?_⟩
                    · exact results_cell2 Tryd.results45 _ _ w.heap.size 0 (scCells (⟨y1.text, y2.num, l⟩ : Sc) (.slice A l.length c)) rfl (rangeAt_block HQR.out) Tryd.underlying24 rfl sc_info _ rfl
                    · exact own_keep (own_deeper HO4.out (by omega)) (fun g hg => setRow_other _ _ _ _ (by have := (own_lt HO4.out g hg).1; omega))
                    · exact HS4.out.1.row (by omega) _
                    · exact gb_setRow HS4.out.2.1 (.inr (Nat.le_refl _)) _
                  | false =>
                    rw [hbad] at he
                    subst he
                    have hyS := HYE.out hbad
                    have HRM2 := Lib.hid (show stgsS xs n' (Sg.2.1, false) (l ++ [y]) = RR by have h9 := HRM.out; rw [← hyS, show Sg.2 = (Sg.2.1, false) by rw [← hbad]] at h9; exact h9)
                    have hgt := HGT.out hbad
                    have hin := HIN.out
                    try simp only at hgt
                    have HS4 := Lib.hid (HS3.out.alloc (.cells #[.int .i64 y.below, .int .i64 y.ticks, .int .i64 y.temp, .int .i64 y.dep] 52))
                    have HO4 := Lib.hid (World.ownsRow.alloc HO3.out (.cells #[.int .i64 y.below, .int .i64 y.ticks, .int .i64 y.temp, .int .i64 y.dep] 52))
                    have hlt3 := HS3.out.lt
                    have f0 := HS3.out.cell 2 (.slice A l.length c) rfl
                    obtain ⟨i0, hi0, hq0, hq1, hq2⟩ := info_parts info_Stg
                    obtain ⟨W4, hW4⟩ : ∃ W4, w3.alloc (.cells #[.int .i64 y.below, .int .i64 y.ticks, .int .i64 y.temp, .int .i64 y.dep] 52) = W4 := ⟨_, rfl⟩
                    have HW4 := Lib.hid hW4
                    have hz4 : W4.heap.size = w3.heap.size + 1 := by rw [← hW4, World.size_alloc]
                    rw [hW4] at HS4 HO4
                    have hlt4 := HS4.out.lt
                    obtain ⟨j2, hj2⟩ : ∃ j2, Sg.2.1 = j2 := ⟨_, rfl⟩
                    rw [hj2] at HRM2 hgt hin HS4
                    clear hbad hyS HYE HRM HIN HGT HSB HS3 HO3 hW4 hj2
                    go_wp2_with (first
                      | (at_builtin; rw [HW4.out]; refine wpList_append_lies _ (by rfl) (.tmp 66) (.tmp 68) 22 (by rfl) (w.heap.size + 2) 52 i0 _ 4 32 Tryd.underlying22 hi0 hq0 hq1 hq2 rfl (by omega) (.slice A l.length c) l.length (stgsCells l) (by rfl) (World.ownsRow.alloc HO4.out _) ⟨W4.heap.size, 0, none⟩ 1 1 (stgCells y) (by first | rfl | (rw [hz4]; rfl)) (by rfl) (World.news_of_block (cs := (stgCells y).toArray) (t := 52) (fr := (0, 0)) (heap_alloc_last W4 _)) (stg_mem y) (by omega) (by simp only [maxLen]; omega) (by omega) (by rw [World.size_alloc]; omega) _ rfl ?_; intro gg cap w5 hown5 hgrow hat hlt; have HG5 := Lib.hid ((HS4.out.alloc _).grow hgrow (fun g hg => (own_lt HO4.out g hg).1)); have HOW5 := Lib.hid hown5; have f5 := HG5.out.cell 2 (.slice A l.length c) rfl; have f6 := HG5.out.frozen 2; have hlt5 := HG5.out.lt; clear hown5 hgrow hat hlt))
                    have HS6 := Lib.hid (HG5.out.set (j := 2) (a := .slice (some ⟨gg, 0, none⟩) (l.length + 1) cap) ⟨y1.text, y2.num, l ++ [y]⟩ (.slice (some ⟨gg, 0, none⟩) (l ++ [y]).length cap) (by rw [List.length_append]; rfl))
                    have HO6 := Lib.hid (show OwnsSt (w5.setCell ⟨w.heap.size + 1, 2, none⟩ (.slice (some ⟨gg, 0, none⟩) (l.length + 1) cap)) (w.heap.size + 2) (.slice (some ⟨gg, 0, none⟩) (l ++ [y]).length cap) (l ++ [y]) by
                      unfold OwnsSt
                      rw [List.length_append, stgsCells_snoc]
                      exact own_keep HOW5.out (fun g hg => Below.heap_setCell _ _ _ _ (by have := (own_lt HOW5.out g hg).1; show g ≠ w.heap.size + 1; omega)))
                    have HLG := Lib.hid (scLeft_of (xs := xs) HS6.out.1)
                    clear f0 f5 f6 hlt5
                    refine ⟨⟨j2, l ++ [y], some ⟨gg, 0, none⟩, cap, hin, ?_, HS6.out, HO6.out, n', by omega, HRM2.out⟩, ?_⟩
                    · rw [List.length_append]; simp only [List.length_cons, List.length_nil]; omega
                    · rw [HLG.out, HLF.out]; omega
    · have hkb : (y1.kind != 1) = true := by rw [bne_iff_ne]; exact hk2
      have hbad := sc2_bad H1.out (by rw [hy1]; exact hk2)
      rw [HR.out] at hbad
      obtain ⟨RX, RS⟩ := R
      simp only at hbad
      subst hbad
      have HN := Lib.hid HS2.out.2.2.2.1
      have HZ := Lib.hid HS2.out.2.2.1
      have H3 : Hid ((scCells Sc.zero (.slice none 0 0)).toArray.size = 3) := Lib.hid rfl
      have HQR := Lib.hid (setRow_heap _ _ _ (scCells (⟨[], 0, []⟩ : Sc) (.slice none 0 0)).toArray _ _ HS2.out.2.2.1)
      go_wp2_with (first
        | ((with_reducible refine sc_load (w.heap.size + 1) 0 (⟨[], 0, []⟩ : Sc) (.slice none 0 0) ?hx (rangeAt_block HN.out) ?_); (case hx => rfl))
        | ((with_reducible refine sc_put w.heap.size (⟨[], 0, []⟩ : Sc) (.slice none 0 0) rfl ?hx ?hy HZ.out H3 ?_); (case hx => rfl); (case hy => rfl)))
      
      refine bodyPost_ret (v := .tuple #[.agg (scCells (⟨[], 0, []⟩ : Sc) (.slice none 0 0)).toArray, .bool false]) ?_ rfl ⟨(⟨[], 0, []⟩ : Sc), none, 0, rfl, nofun, ?_, ?_, ?_⟩
      · exact results_cell2 Tryd.results45 _ _ w.heap.size 0 (scCells (⟨[], 0, []⟩ : Sc) (.slice none 0 0)) rfl (rangeAt_block HQR.out) Tryd.underlying24 rfl sc_info _ rfl
      · exact World.ownsRow_nil _ _ _ _
      · exact HS2.out.1.row (by omega) _
      · exact gb_setRow HS2.out.2.1 (.inr (Nat.le_refl _)) _

end Go.Proofs.YtabdlldkkcjppaaDoor

namespace Saw
theorem scan_hyp {s : List UInt8} {xs : List Lx} {a : Int} (h : scanP s = (xs, 0, a)) : a = 0 ∧ LxEnds xs ∧ (∀ x ∈ xs, 0 ≤ x.num) ∧ (∀ x ∈ xs, x.kind = 0 → x.text = []) ∧ 0 < xs.length ∧ xs.length ≤ 8001 ∧ ∀ x ∈ xs, x.text.length ≤ 8000 := by
  have h0 := scanP_good s (by rw [h])
  rw [h] at h0
  obtain ⟨_, ha, _, hlen, htx⟩ := h0
  simp only at ha hlen htx
  subst ha
  obtain ⟨ys, rfl, hk, hok, _⟩ := scanP_can h
  refine ⟨rfl, endsP hk, fun x hx => ?_, fun x hx h0 => ?_, by rw [List.length_append, List.length_singleton]; omega, hlen, htx⟩
  · rcases List.mem_append.1 hx with hx | hx
    · rcases lexOK_canon (hok x hx) with h9 | h9 | h9
      · rw [h9.2]; exact Int.le_refl _
      · exact h9.2.2
      · rw [h9.2]; exact Int.le_refl _
    · rw [List.mem_singleton.1 hx]; exact Int.le_refl _
  · rcases List.mem_append.1 hx with hx | hx
    · exact absurd h0 (hk x hx)
    · rw [List.mem_singleton.1 hx]; rfl
theorem scS_name {xs : List Lx} {M : Nat} (h : ∀ x ∈ xs, x.text.length ≤ M) (s : Nat × Bool) : (scS xs s).1.name.length ≤ M := by
  show (lexS xs (sc1 xs s) (1, [])).text.length ≤ M
  unfold lexS
  split
  · rw [lxAt]
    cases hj : xs[(sc1 xs s).1]? with
    | none => exact Nat.zero_le _
    | some x => exact h x (List.mem_of_getElem? hj)
  · exact Nat.zero_le _
theorem scsAll_end {xs : List Lx} {k : Nat} (h : (lxAt xs k).kind = 0) (n : Nat) (acc : List Sc) : scsAll xs n k acc = (acc, 0, 0) := by
  cases n with
  | zero => rfl
  | succ n => rw [scsAll, if_pos h]
theorem validP_stages {l : List Sc} (h : validP l = true) : ∀ x ∈ l, x.stages.length ≤ 1000000 := fun x hx => by
  have := (checkSc_ok (validP_mem h x hx)).2.2.2.2.1
  omega
end Saw
namespace Go.Proofs.YtabdlldkkcjppaaDoor
open Go.RowKit Saw

def Apart (v u : Value) : Prop := ∀ g, v.ownBlock = some g → u.ownBlock ≠ some g
/-- Schedules of the call's own, with their stages, each in a row of its own. -/
def ScMem (w : World) (base : Nat) (v : Value) (l : List Sc) (m : List (Sc × Value)) : Prop :=
  m.map (·.1) = l ∧ w.ownsRow base 24 3 v m.length (scsCells m) ∧ ∀ y ∈ m, OwnsSt w base y.2 y.1.stages ∧ Apart v y.2
section
variable {w w' W w5 : World} {base rb gg cap : Nat} {v : Value} {l : List Sc} {m : List (Sc × Value)} {o : Obj}
theorem ScMem.keep (h : ScMem w base v l m) (hk : ∀ k, base ≤ k → k < w.heap.size → w'.heap[k]? = w.heap[k]?) : ScMem w' base v l m := by
  obtain ⟨h1, h2, h3⟩ := h
  have hh : ∀ {e size u n xs}, w.ownsRow base e size u n xs → w'.ownsRow base e size u n xs := fun hu => own_keep hu fun k hk' => hk k (own_lt hu k hk').1 (own_lt hu k hk').2
  exact ⟨h1, hh h2, fun y hy => ⟨hh (h3 y hy).1, (h3 y hy).2⟩⟩
theorem ScMem.gb (h : ScMem w base v l m) (hg : w.grownBy w' (some rb)) (hb : rb < base) : ScMem w' base v l m :=
  h.keep fun k hk hlt => hg.block k hlt (fun e => by injection e; omega)
theorem ScMem.below (h : ScMem w base v l m) (hb : Below w.heap.size w w') : ScMem w' base v l m := h.keep fun k _ hlt => hb.block k hlt
theorem ScMem.nil (w : World) (base : Nat) : ScMem w base (.slice none 0 0) [] [] := ⟨rfl, World.ownsRow_nil _ _ _ _, nofun⟩
theorem scsCells_snoc (m : List (Sc × Value)) (y : Sc × Value) : scsCells (m ++ [y]) = scsCells m ++ scCells y.1 y.2 := by simp [scsCells]
theorem ScMem.push {x : Sc} {sv : Value} {B : Nat} (h : ScMem w base v l m) (h1 : OwnsSt w B sv x.stages) (hB : base ≤ B) (hv : ∀ g, v.ownBlock = some g → g < B)
    (hown : w5.ownsRow base 24 3 (.slice (some ⟨gg, 0, none⟩) (m.length + 1) cap) (m.length + 1) (scsCells m ++ scCells x sv)) (hgrow : (w.alloc o).grownBy w5 v.ownBlock) (hat : v.ownBlock = some gg ∨ gg = (w.alloc o).heap.size) :
    ScMem w5 base (.slice (some ⟨gg, 0, none⟩) (m.length + 1) cap) (l ++ [x]) (m ++ [(x, sv)]) := by
  obtain ⟨q1, q2, q5⟩ := h
  have hh : ∀ {b e size u n xs}, w.ownsRow b e size u n xs → Apart v u → w5.ownsRow b e size u n xs := fun hu ha => own_keep hu fun k hk' => by
    have hlt := (own_lt hu k hk').2
    rw [hgrow.block k (by rw [World.size_alloc]; omega) (fun e => ha k e.symm hk'), Below.heap_alloc w o k hlt]
  have ha : ∀ {b e size u n xs}, w.ownsRow b e size u n xs → Apart v u → Apart (.slice (some ⟨gg, 0, none⟩) (m.length + 1) cap) u := fun hu ha g hg hv => by
    have e : some gg = some g := hg
    injection e with e
    subst e
    rcases hat with hq | hq
    · exact ha _ hq hv
    · have := (own_lt hu _ hv).2
      rw [World.size_alloc] at hq
      omega
  have f1 : Apart v sv := fun g hg hv' => by
    have := (own_lt h1 g hv').1
    have := hv g hg
    omega
  refine ⟨by rw [List.map_append, q1]; rfl, ?_, fun y hy => ?_⟩
  · rw [List.length_append, scsCells_snoc]
    exact hown
  · rcases List.mem_append.1 hy with hy | hy
    · obtain ⟨y1, y2⟩ := q5 y hy
      exact ⟨hh y1 y2, ha y1 y2⟩
    · rw [List.mem_singleton.1 hy]
      exact ⟨own_deeper (hh h1 f1) hB, ha h1 f1⟩
theorem ScMem.rd (h : ScMem w base v l m) : RdSc w w.heap.size v l := by
  obtain ⟨h1, h2, h3⟩ := h
  exact ⟨m, h1, Rd.of_own h2, fun y hy => Rd.of_own (h3 y hy).1⟩
end
theorem gb_ownP {w W w5 : World} {rb : Nat} {row : Option Nat} (h : w.grownBy W (some rb)) (hg : W.grownBy w5 row) (hr : ∀ g, row = some g → w.heap.size ≤ g) : w.grownBy w5 (some rb) :=
  ⟨hg.os.trans h.os, hg.tape.trans h.tape, hg.output.trans h.output, Nat.le_trans h.size hg.size, fun k hk hne => (hg.block k (Nat.lt_of_lt_of_le hk h.size) (fun e => by have := hr k e.symm; omega)).trans (h.block k hk hne)⟩

def ParseScPost (r : List Sc × Int × Int) (w : World) (e : Ending) (w' : World) : Prop :=
  ∃ v, e = .returned (.tuple #[v, .int .i64 r.2.1, .int .i64 r.2.2]) ∧ RdSc w' w'.heap.size v r.1 ∧ Below w.heap.size w w'
def SchRel (w0 : World) (rb : Nat) (lv : Value) (xs : List Lx) (R : List Sc × Int × Int) (vl : Value) (wr : World) : Prop :=
  ∃ (j : Nat) (l : List Sc) (m : List (Sc × Value)), j < xs.length ∧ l.length ≤ j ∧ IsScR wr rb lv j ∧ ScMem wr (rb + 1) vl l m ∧ w0.grownBy wr (some rb) ∧ validP l = true ∧ ∃ n, xs.length - j ≤ n ∧ scsAll xs n j l = R
theorem info_sc3 : (Tryd.prog.info? 24).map (fun i => (i.zero, i.size, i.bytes)) = some (some (.agg #[.string ⟨#[]⟩, .int .i64 0, .slice none 0 0]), 3, 48) := by kernel_rfl
theorem scx_field3 (k n q : Int) (t : ByteArray) (W : World) : (Instr.field 76 (.agg #[.int .i64 k, .string t, .int .i64 n, .int .i64 q]) 3).run Tryd.prog W = .ok (.int .i64 q) W := by kernel_rfl

set_option maxRecDepth 100000 in
set_option maxHeartbeats 2000000 in
theorem scParse_any (s : ByteArray) (w : World) (hs : s.size ≤ 9223372036854775807) (hv : VarsS w) :
    Calls Tryd.prog 25 #[.string s] w (ParseScPost (parseSc (bts s)) w) := by
  obtain ⟨r, hr⟩ : ∃ r, parseSc (bts s) = r := ⟨_, rfl⟩
  rw [hr]
  have HR := Lib.hid hr
  have HV := Lib.hid hv
  have lf3 := scx_field3
  clear hr hv
  go_enter Tryd.func25, Tryd.ntmps25
  go_wp2_with fail
  refine (scan_any s _ hs).mono ?_
  rintro e w1 ⟨v, he, ho, hb⟩
  obtain ⟨xs, er, at_, hsc⟩ : ∃ xs er at_, scanP (bts s) = (xs, er, at_) := ⟨_, _, _, rfl⟩
  rw [hsc] at he ho
  subst he
  have HB := Lib.hid hb
  have hsz := hb.size
  clear hb
  by_cases her : er = 0
  · subst her
    obtain ⟨rfl, hends, hnn, hze, hpos, hlen, htx⟩ := scan_hyp hsc
    have hrd : Rd w1 w1.heap.size 4 v xs.length (lxsCells xs) := Rd.of_own ho
    have hxm : xs.length < 1000000 := by omega
    have HRD := Lib.hid hrd
    have HENDS := Lib.hid hends
    have HNN := Lib.hid hnn
    have HZE := Lib.hid hze
    have HTX := Lib.hid htx
    obtain ⟨RR, hRR⟩ : ∃ RR, scsAll xs xs.length 0 [] = RR := ⟨_, rfl⟩
    have hre : r = RR := by
      rw [← HR.out, parseSc, hsc]
      simp only [hRR, ne_eq, not_true_eq_false, if_false]
    subst hre
    have HRR := Lib.hid hRR
    obtain ⟨_, _, A0, cc, rfl, _, _⟩ := id hrd
    clear hrd hends hnn hze htx hsc ho hRR HR
    go_wp2_with fail
    have hrdr : IsScR (w1.alloc (.cells #[.slice A0 xs.length cc, .int .i64 0] 73)) w1.heap.size (.slice A0 xs.length cc) 0 := heap_alloc_last w1 _
    obtain ⟨w0, hw0⟩ : ∃ w0, w1.alloc (.cells #[.slice A0 xs.length cc, .int .i64 0] 73) = w0 := ⟨_, rfl⟩
    have hb0 : Below w.heap.size w w0 := by rw [← hw0]; exact HB.out.alloc hsz _
    have hrd0 : Rd w0 w1.heap.size 4 (.slice A0 xs.length cc) xs.length (lxsCells xs) := by rw [← hw0]; exact HRD.out.below ((Below.refl _ _).alloc (Nat.le_refl _) _)
    have hz0 : w0.heap.size = w1.heap.size + 1 := by rw [← hw0, World.size_alloc]
    rw [hw0] at hrdr
    rw [hw0]
    obtain ⟨rb, hrb⟩ : ∃ rb, w1.heap.size = rb := ⟨_, rfl⟩
    rw [hrb] at hrdr hrd0 hz0 hsz
    rw [hrb]
    have hrg : 0 < rb := Nat.lt_of_lt_of_le HV.out.2.2.2 hsz
    have HRD0 := Lib.hid hrd0
    have HB0 := Lib.hid hb0
    have HRDR := Lib.hid hrdr
    clear hrdr hrd0 hb0 hw0 hrb HRD HB
    go_loopw [9] (SchRel w0 rb (.slice A0 xs.length cc) xs r) (fun _ wr => scLeft xs rb wr)
    case atStart => exact ⟨0, [], [], hpos, Nat.le_refl _, HRDR.out, ScMem.nil _ _, gb_refl, rfl, xs.length, by simp, HRR.out⟩
    case round =>
      obtain ⟨j, l, m, hj, hlj, hri, hm, hgi, hvl, n, hn, hRn⟩ := hrel
      obtain ⟨A1, q1, hu9, hq1, _⟩ := hm.rd.form
      subst hu9
      have hrs := hri.cells.2.2.2
      have HRI := Lib.hid hri
      have HM := Lib.hid hm
      have HGI := Lib.hid hgi
      have HVL := Lib.hid hvl
      have HRN := Lib.hid hRn
      have HPL := Lib.hid (scLeft_of (xs := xs) hri)
      have hl8 := (validP_all hvl).1
      have hie := lxEnd_is HZE.out hj
      have hrdr := HRD0.out.gb hgi (Nat.le_refl _) (by omega)
      have HRDR2 := Lib.hid (hrdr.more (Nat.le_of_lt hrs))
      have HBW := Lib.hid (show Below w.heap.size w wr from below_of_gb HB0.out hgi (by omega) hsz)
      have hszr := hgi.size
      clear hri hm hgi hvl hRn HRDR hrdr
      go_wp2_with fail
      refine (is_sc wr rb _ j xs 0 _ HRI.out HRDR2.out hj hxm).mono ?_
      rintro e w2 ⟨he, hb2⟩
      have he' : e = .returned (.bool (lxIs (lxAt xs j) 0 [])) := he
      clear he
      rw [hie] at he'
      have HRI2 := Lib.hid (HRI.out.below hb2 hrs)
      have HM2 := Lib.hid (HM.out.below hb2)
      have HGI2 := Lib.hid (gb_belowS HGI.out hb2)
      have HB2 := Lib.hid (HBW.out.trans (hb2.mono HBW.out.size))
      have HRD2 := Lib.hid ((HRDR2.out.below hb2).more hb2.size)
      have hsz2 := hb2.size
      clear hb2 hie
      by_cases hend : (lxAt xs j).kind = 0
      · rw [decide_eq_true hend] at he'
        subst he'
        have hR : r = (l, 0, 0) := by rw [← HRN.out, scsAll_end hend]
        subst hR
        clear hend
        go_wp2_with fail
        go_ret3
        exact ⟨_, rfl, HM2.out.rd, HB2.out⟩
      · rw [decide_eq_false hend] at he'
        subst he'
        go_wp2_with fail
        refine (next_sc w2 rb _ j xs HRI2.out HRD2.out hj hxm).mono ?_
        rintro e w3 ⟨he, hb3⟩
        obtain ⟨y, hy⟩ : ∃ y, lxAt xs j = y := ⟨_, rfl⟩
        rw [hy] at he
        subst he
        have HRI3 := Lib.hid (HRI2.out.below hb3 (by omega))
        have HM3 := Lib.hid (HM2.out.below hb3)
        have HGI3 := Lib.hid (gb_belowS HGI2.out hb3)
        have HB3 := Lib.hid (HB2.out.trans (hb3.mono HB2.out.size))
        have hsz3 := hb3.size
        have HY := Lib.hid hy
        have HEND := Lib.hid hend
        clear hb3 hy hend
        go_wp2_with fail
        refine (schedule_sc w3 rb _ j xs HRI3.out (HRD0.out.gb HGI3.out (Nat.le_refl _) (by omega)) hj hxm HENDS.out HNN.out HZE.out ⟨(HV.out.below HB3.out HV.out.2.2.1 HV.out.2.2.2).1, (HV.out.below HB3.out HV.out.2.2.1 HV.out.2.2.2).2.2.2⟩ hrg).mono ?_
        rintro e w4 ⟨x, A, c, he, hxe, ho4, hr4, hg4⟩
        obtain ⟨n', rfl⟩ : ∃ n', n = n' + 1 := ⟨n - 1, by omega⟩
        have hRN := HRN.out
        rw [scsAll, if_neg HEND.out] at hRN
        have hin := scS_in HENDS.out (s := (j, false)) hj
        have hgt := scS_gt (xs := xs) (s := (j, false))
        have hyn := scS_name HTX.out (j, false)
        obtain ⟨y4, j4, f4, hs4⟩ : ∃ y4 j4 f4, scS xs (j, false) = (y4, (j4, f4)) := ⟨_, _, _, rfl⟩
        rw [hs4] at he hxe hr4 hin hgt hyn hRN
        simp only at he hxe hr4 hin hgt hyn hRN
        have HRI4 := Lib.hid hr4
        have HM4 := Lib.hid (HM3.out.gb hg4 (Nat.lt_succ_self rb))
        have HGI4 := Lib.hid (gb_trans HGI3.out hg4)
        have HO4 := Lib.hid ho4
        have HB4 := Lib.hid (show Below w.heap.size w w4 from below_of_gb HB0.out (gb_trans HGI3.out hg4) (by omega) hsz)
        have hsz4 := hg4.size
        have HHV := Lib.hid (fun g hg => (own_lt HM3.out.2.1 g hg).2)
        have hrl4 := hr4.cells.2.2.2
        clear hr4 ho4 hg4 hs4
        cases f4 with
        | true =>
          obtain ⟨z, hz⟩ : ∃ z, lxAt xs j4 = z := ⟨_, rfl⟩
          rw [if_pos rfl, hz] at hRN
          subst hRN
          subst he
          have hrw5 : IsScR (w4.alloc (.cells #[.string (str x.name), .int .i64 x.ramp, .slice A x.stages.length c] 24)) rb (.slice A0 xs.length cc) j4 := HRI4.out.alloc _
          have hrd5 : Rd (w4.alloc (.cells #[.string (str x.name), .int .i64 x.ramp, .slice A x.stages.length c] 24)) (w4.alloc (.cells #[.string (str x.name), .int .i64 x.ramp, .slice A x.stages.length c] 24)).heap.size 4 (.slice A0 xs.length cc) xs.length (lxsCells xs) := (HRD0.out.gb (gb_alloc HGI4.out _) (Nat.le_refl _) (by omega)).more (by rw [World.size_alloc]; omega)
          have HR5 := Lib.hid hrw5
          have HRD5 := Lib.hid hrd5
          clear hrw5 hrd5
          go_wp2_with fail
          refine (next_sc _ rb _ j4 xs HR5.out HRD5.out hin hxm).mono ?_
          rintro e w6 ⟨he, hb6⟩
          rw [hz] at he
          subst he
          have HB6 := Lib.hid ((HB4.out.alloc HB4.out.size _).trans (hb6.mono (by rw [World.size_alloc]; have := HB4.out.size; omega)))
          clear hb6 hz
          go_wp2_with fail
          go_ret3
          exact ⟨_, rfl, RdSc.nil _ _, HB6.out⟩
        | false =>
          obtain rfl := hxe rfl
          rw [if_neg (by decide)] at hRN
          subst he
          obtain ⟨N, hN⟩ : ∃ N, w4.heap.size = N := ⟨_, rfl⟩
          obtain ⟨w5, hw5⟩ : ∃ w5, w4.alloc (.cells #[.string (str x.name), .int .i64 x.ramp, .slice A x.stages.length c] 24) = w5 := ⟨_, rfl⟩
          have HW5 := Lib.hid hw5
          have hNb : w5.heap[N]? = some (.cells #[.string (str x.name), .int .i64 x.ramp, .slice A x.stages.length c] 24 (0, 0)) := by rw [← hw5, ← hN]; exact heap_alloc_last w4 _
          have hz5 : w5.heap.size = N + 1 := by rw [← hw5, World.size_alloc, hN]
          have hb45 : Below w4.heap.size w4 w5 := by rw [← hw5]; exact (Below.refl _ _).alloc (Nat.le_refl _) _
          have HRI5 := Lib.hid (HRI4.out.below hb45 hrl4)
          have HM5 := Lib.hid (HM4.out.below hb45)
          have HGI5 := Lib.hid (gb_belowS HGI4.out hb45)
          have HO5 := Lib.hid (own_keep HO4.out (fun g hg => hb45.block g (own_lt HO4.out g hg).2))
          have HB5 := Lib.hid (HB4.out.trans (hb45.mono HB4.out.size))
          have HX5 := Lib.hid (RdSt.next (show RdSt w4 w4.heap.size (.slice A x.stages.length c) x.stages from Rd.of_own HO4.out) hb45)
          have HNB := Lib.hid hNb
          clear hb45 hw5 hNb
          have hgt' := hgt rfl
          by_cases h8 : l.length = 8
          · have hb8 : ((l.length : Int) == 8) = true := by rw [h8]; rfl
            have hl9 : lastErr l x = 4 := by rw [lastErr, if_pos (by omega)]
            rw [hl9, if_pos (by decide), HY.out] at hRN
            subst hRN
            clear h8 hl9
            go_wp2_with fail
            go_ret3
            rw [HW5.out]
            exact ⟨_, rfl, RdSc.nil _ _, HB5.out⟩
          · have hb8 : ((l.length : Int) == 8) = false := by rw [beq_eq_false_iff_ne]; omega
            have hl9 : lastErr l x = if checkSc x ≠ 0 then checkSc x else if (findSc l x.name).isSome then 7 else 0 := by rw [lastErr, if_neg (by omega)]
            have HL9 := Lib.hid hl9
            have HRN4 := Lib.hid hRN
            clear hl9 hRN h8
            have q0 : w5.cell? ⟨N, 0, none⟩ = some (.string (str x.name)) := cell_of_box HNB.out rfl
            have q1' : w5.cell? ⟨N, 1, none⟩ = some (.int .i64 x.ramp) := cell_of_box HNB.out rfl
            have q2' : w5.cell? ⟨N, 2, none⟩ = some (.slice A x.stages.length c) := cell_of_box HNB.out rfl
            go_wp2_with fail
            rw [HW5.out]
            refine (scCheck_any x A c w5 HX5.out (by omega)).mono ?_
            rintro e w6 ⟨he, hb6⟩
            obtain ⟨q, hq⟩ : ∃ q, checkSc x = q := ⟨_, rfl⟩
            rw [hq] at he
            subst he
            have hsz6 := hb6.size
            have hlt5 : N < w5.heap.size := by omega
            have HB6 := Lib.hid (HB5.out.trans (hb6.mono HB5.out.size))
            have HRI6 := Lib.hid (HRI5.out.below hb6 (by omega))
            have HM6 := Lib.hid (HM5.out.below hb6)
            have HGI6 := Lib.hid (gb_belowS HGI5.out hb6)
            have HO6 := Lib.hid (own_keep HO5.out (fun g hg => hb6.block g (own_lt HO5.out g hg).2))
            have hN6 : w6.heap[N]? = some (.cells #[.string (str x.name), .int .i64 x.ramp, .slice A x.stages.length c] 24 (0, 0)) := (hb6.block N hlt5).trans HNB.out
            have HN6 := Lib.hid hN6
            clear hb6 q0 q1' q2' hN6
            by_cases hq0 : q = 0
            · subst hq0
              have HL6 := Lib.hid (show lastErr l x = if (findSc l x.name).isSome then 7 else 0 by rw [HL9.out, hq]; simp)
              have HCK := Lib.hid hq
              clear hq HL9
              obtain ⟨rr, hrr⟩ : ∃ rr, findSc l x.name = rr := ⟨_, rfl⟩
              obtain ⟨q, hq⟩ : ∃ q, rr.isSome = q := ⟨_, rfl⟩
              have HF : Hid (∀ W, Below w6.heap.size w6 W → Calls Tryd.prog 14 #[.slice A1 l.length q1, .string (str x.name)] W fun e w' => ∃ (y : Sc) (A2 : Option Addr) (n2 c2 : Nat), e = .returned (.tuple #[.agg #[.string (str y.name), .int .i64 y.ramp, .slice A2 n2 c2], .bool q]) ∧ Below W.heap.size W w') := by
                intro W hW
                refine (scFind_any l _ x.name W ((HM6.out.below hW).rd) (validP_stages HVL.out)).mono ?_
                rintro e w' ⟨y, A2, c2, _, he, _, hb'⟩
                rw [hrr, hq] at he
                exact ⟨y, A2, _, c2, he, hb'⟩
              have hNl : N < w6.heap.size := by omega
              have hc1 : w6.cell? ⟨N, 0, none⟩ = some (.string (str x.name)) := cell_of_box HN6.out rfl
              have HRR := Lib.hid hrr
              have HQ := Lib.hid hq
              have HNL := Lib.hid hNl
              clear hrr hq hNl
              go_wp2_with fail
              refine (HF.out _ (Below.refl _ _)).mono ?_
              rintro e W7 ⟨y7, A2, n2, c2, rfl, hb7⟩
              obtain ⟨W8, hW8⟩ : ∃ W8, W7.alloc (.cells #[.string (str y7.name), .int .i64 y7.ramp, .slice A2 n2 c2] 24) = W8 := ⟨_, rfl⟩
              have HW8 := Lib.hid hW8
              have hB7 : Below w6.heap.size w6 W8 := by rw [← hW8]; exact hb7.alloc hb7.size _
              have hsz7 := hB7.size
              have HB7 := Lib.hid (HB6.out.trans (hB7.mono HB6.out.size))
              have HRI7 := Lib.hid (HRI6.out.below hB7 (by omega))
              have HM7 := Lib.hid (HM6.out.below hB7)
              have HGI7 := Lib.hid (gb_belowS HGI6.out hB7)
              have HO7 := Lib.hid (own_keep HO6.out (fun g hg => hB7.block g (own_lt HO6.out g hg).2))
              have HN7 := Lib.hid ((hB7.block N HNL.out).trans HN6.out)
              clear hB7 hW8 hb7 hc1
              · cases q with
                | true =>
                  have hl7 : lastErr l x = 7 := by rw [HL6.out, HRR.out, if_pos HQ.out]
                  have h9 := HRN4.out
                  rw [hl7, if_pos (by decide), HY.out] at h9
                  subst h9
                  go_wp2_with fail
                  rw [HW8.out]
                  go_ret3
                  exact ⟨_, rfl, RdSc.nil _ _, HB7.out⟩
                | false =>
                  have hl7 : lastErr l x = 0 := by rw [HL6.out, HRR.out, if_neg (by rw [HQ.out]; decide)]
                  have h9 := HRN4.out
                  rw [hl7, if_neg (by decide)] at h9
                  have HR9 := Lib.hid h9
                  have HVN := Lib.hid (lastErr_valid HVL.out hl7)
                  have hml : m.length = l.length := by rw [← HM7.out.1, List.length_map]
                  have hmk : m.length ≤ 100000 := by omega
                  have HML := Lib.hid hml
                  obtain ⟨i1, hi1, hy0, hy1, hy2⟩ := info_parts info_sc3
                  have HRG := Lib.hid (show W8.rangeAt N 0 (scCells x (.slice A x.stages.length c)) from rangeAt_block HN7.out)
                  clear hl7 h9 hml
                  go_wp2_with (first
                    | ((try rw [HW8.out]); (with_reducible refine sc_load N 0 x (.slice A x.stages.length c) ?hx HRG.out ?_); (case hx => rfl))
                    | ((with_reducible refine wpList_sliceAs (t := 25) 3 (scCells x (.slice A x.stages.length c)).toArray Tryd.underlying25 sc_info sc_zero ?h1 ?h2 ?hf ?_); (case h1 => decide); (case h2 => decide); (case hf => kernel_rfl); intro arr harr; subst harr)
                    | (at_builtin; refine wpList_append_lies _ (by rfl) (.tmp 59) (.tmp 61) 25 (by rfl) (rb + 1) 24 i1 _ 3 48 Tryd.underlying25 hi1 hy0 hy1 hy2 rfl (by omega) (.slice A1 l.length q1) m.length (scsCells m) (by rfl) (World.ownsRow.alloc HM7.out.2.1 _)
                          ⟨W8.heap.size, 0, none⟩ 1 1 (scCells x (.slice A x.stages.length c)) (by rfl) (by rfl) (World.news_of_block (cs := (scCells x (.slice A x.stages.length c)).toArray) (t := 24) (fr := (0, 0)) (heap_alloc_last W8 _)) (sc_mem x)
                          (by omega) (by simp only [maxLen]; omega) (by omega) (by rw [World.size_alloc]; omega) _ rfl ?_; intro g7 cap7 w8 hown8 hgrow8 hat8 hlt8))
                  have hm8 := HM7.out.push HO7.out (by omega) HHV.out hown8 hgrow8 hat8
                  have hov7 := own_lt HM7.out.2.1
                  have hgw8 : W8.grownBy w8 (Value.slice A1 l.length q1).ownBlock := gb_trans (gb_alloc gb_refl _) hgrow8
                  have hr8 : IsScR w8 rb (.slice A0 xs.length cc) j4 := (hgw8.block rb (by omega) (fun e => by have := (hov7 rb e.symm).1; omega)).trans HRI7.out
                  have hg8 : w0.grownBy w8 (some rb) := gb_ownP HGI7.out hgw8 (fun g hg => by have := (hov7 g hg).1; omega)
                  refine ⟨⟨j4, l ++ [x], _, hin, ?_, hr8, hm8, hg8, HVN.out, n', by omega, HR9.out⟩, ?_⟩
                  · rw [List.length_append]; simp only [List.length_cons, List.length_nil]; omega
                  · rw [HPL.out, scLeft_of hr8]; omega
            · have hl7 : lastErr l x = q := by rw [HL9.out, hq, if_pos hq0]
              have h9 := HRN4.out
              rw [hl7, if_pos hq0, HY.out] at h9
              subst h9
              have hqb : (q != 0) = true := by rw [bne_iff_ne]; exact hq0
              clear hl7 hq hq0 HL9
              go_wp2_with fail
              go_ret3
              exact ⟨_, rfl, RdSc.nil _ _, HB6.out⟩
  · have heb : (er != 0) = true := by rw [bne_iff_ne]; exact her
    have hrz : r = ([], er, at_) := by rw [← HR.out, parseSc, hsc]; simp [her]
    subst hrz
    clear her hsc ho
    go_wp2_with fail
    go_ret3
    exact ⟨_, rfl, RdSc.nil _ _, HB.out⟩

end Go.Proofs.YtabdlldkkcjppaaDoor
