/-
  The contracts of the parser's small methods (package ruletext): next, fail, isWord, isMark, expect; node.
-/
import Derived.Test.YtkalkglllgebkaaDoorRxM
import Derived.Test.YtkalkglllgebkaaDoorRxP
import Derived.Test.YtkalkglllgebkaaDoorLexF
import Derived.BigRegion
import Derived.Deep.RegionWith
import Derived.Deep.AppendLies
import Derived.Deep.Cut
namespace Go.Proofs.YtkalkglllgebkaaDoor
open Go.RowKit Saw

def IntB (n : Int) (w : World) (e : Ending) (w' : World) : Prop := e = .returned (.int .i64 n) ∧ Below w.heap.size w w'
def BoolB (b : Bool) (w : World) (e : Ending) (w' : World) : Prop := e = .returned (.bool b) ∧ Below w.heap.size w w'
theorem bel_alloc {w W : World} {ob : Obj} (h : Below w.heap.size w W) : Below w.heap.size w (W.alloc ob) := h.alloc h.size ob
theorem bel_call {w W W' : World} (h : Below w.heap.size w W) (h2 : Below W.heap.size W W') : Below w.heap.size w W' := h.trans (h2.mono h.size)
theorem bel_set {w W : World} {g j : Nat} {v : Value} (h : Below w.heap.size w W) (hg : w.heap.size ≤ g) : Below w.heap.size w (W.setCell ⟨g, j, none⟩ v) := h.setCell hg _
theorem cell_of_box {w : World} {N j : Nat} {cs : Array Value} {t : TypeId} {v : Value} (h : w.heap[N]? = some (.cells cs t (0, 0))) (hv : cs[j]? = some v) : w.cell? ⟨N, j, none⟩ = some v := by
  rw [cell_of_row w N j cs t (0, 0) h]; exact hv
theorem hpA {w : World} {g : Nat} {o : Obj} (h : w.heap[g]? = some o) (o' : Obj) : (w.alloc o').heap[g]? = some o := (Below.heap_alloc _ _ _ (Array.getElem?_eq_some_iff.1 h).1).trans h
theorem hpS {w : World} {g : Nat} {o : Obj} (h : w.heap[g]? = some o) {g' i : Nat} (hne : g ≠ g') (v : Value) : (w.setCell ⟨g', i, none⟩ v).heap[g]? = some o := (Below.heap_setCell _ _ _ _ hne).trans h
theorem str_eqC (a : List UInt8) (s : ByteArray) : ((str a).toList == s.toList) = (a == bts s) := by rw [toList_bts, toList_bts, bts_str]
theorem gb_belowS {w w' W : World} {row : Option Nat} (h : w.grownBy W row) (hb : Below W.heap.size W w') : w.grownBy w' row :=
  ⟨hb.os.trans h.os, hb.tape.trans h.tape, hb.output.trans h.output, Nat.le_trans h.size hb.size, fun k hk hne => (hb.block k (Nat.lt_of_lt_of_le hk h.size)).trans (h.block k hk hne)⟩

/-- The parser's block: its lexemes and its place. -/
def IsRx (w : World) (rb : Nat) (lv : Value) (k : Nat) : Prop := w.heap[rb]? = some (.cells #[lv, .int .i64 k] 66 (0, 0))
section
variable {w w' : World} {rb B g k : Nat} {lv : Value}
theorem IsRx.cells (h : IsRx w rb lv k) : w.cell? ⟨rb, 0, none⟩ = some lv ∧ w.cell? ⟨rb, 1, none⟩ = some (.int .i64 k) ∧ w.frozen? ⟨rb, 1, none⟩ = false ∧ rb < w.heap.size := by
  refine ⟨cell_of_box h rfl, cell_of_box h rfl, ?_, (Array.getElem?_eq_some_iff.1 h).1⟩
  simp [World.frozen?, show w.heap[rb]? = _ from h]
theorem IsRx.set (h : IsRx w rb lv k) (k' : Nat) : IsRx (w.setCell ⟨rb, 1, none⟩ (.int .i64 k')) rb lv k' := by
  unfold IsRx
  rw [setCell_eq_setRow w rb 1 _ _ _ _ h, setRow_heap _ _ _ _ _ _ h]
  rfl
theorem IsRx.alloc (h : IsRx w rb lv k) (o : Obj) : IsRx (w.alloc o) rb lv k := hpA h o
theorem IsRx.below (h : IsRx w rb lv k) (hb : Below B w w') (hB : rb < B) : IsRx w' rb lv k := (hb.block rb hB).trans h
theorem IsRx.row (h : IsRx w rb lv k) (hne : rb ≠ g) (cs : Array Value) : IsRx (w.setRow g cs) rb lv k := (setRow_other _ _ _ _ hne).trans h
theorem IsRx.setO (h : IsRx w rb lv k) {i : Nat} (hne : rb ≠ g) (v : Value) : IsRx (w.setCell ⟨g, i, none⟩ v) rb lv k := (Below.heap_setCell _ _ _ _ hne).trans h
theorem IsRx.lt (h : IsRx w rb lv k) : rb < w.heap.size := (Array.getElem?_eq_some_iff.1 h).1
end
/-- The lexemes that the parser reads. -/
def RdXs (w : World) (rb : Nat) (lv : Value) (xs : List Lx) : Prop := Rd w rb 4 lv xs.length (lxsCells xs)
/-- What is read of the list of lexemes. -/
theorem lx_reads {w : World} {B : Nat} {lv : Value} {k : Nat} {xs : List Lx} {x : Lx} (hl : Rd w B 4 lv xs.length (lxsCells xs)) (hkx : k < xs.length) (hxe : lxAt xs k = x) :
    ∃ b off cc, lv = .slice (some ⟨b, off, none⟩) xs.length cc ∧ xs.length ≤ cc ∧ b < B ∧ xs.length ≤ 9223372036854775807 ∧ w.cell? ⟨b, off + k * 4, none⟩ = some (.int .i64 x.kind) ∧ w.cell? ⟨b, off + k * 4 + 1, none⟩ = some (.string (str x.text)) ∧ w.cell? ⟨b, off + k * 4 + 2, none⟩ = some (.int .i64 x.num) ∧ w.cell? ⟨b, off + k * 4 + 3, none⟩ = some (.int .i64 x.off) := by
  have hx := lxAt_some hkx
  rw [hxe] at hx
  obtain ⟨_, hml, A, cp, rfl, hcp, hcs⟩ := id hl
  obtain ⟨b, off, rfl, hb, hcell⟩ := hcs (by omega)
  obtain ⟨k0, k1, k2, k3⟩ := lxs_at xs k x hx
  have d0 := hcell _ _ k0
  have d1 := hcell _ _ k1
  rw [← Nat.add_assoc] at d1
  have d2 := hcell _ _ k2
  rw [← Nat.add_assoc] at d2
  have d3 := hcell _ _ k3
  rw [← Nat.add_assoc] at d3
  unfold maxLen at hml
  exact ⟨b, off, cp, rfl, hcp, hb, by omega, d0, d1, d2, d3⟩

def NextPost (w : World) (x : Lx) (e : Ending) (w' : World) : Prop := e = .returned (.agg #[.int .i64 x.kind, .string (str x.text), .int .i64 x.num, .int .i64 x.off]) ∧ Below w.heap.size w w'

set_option maxRecDepth 100000 in
set_option maxHeartbeats 400000 in
theorem next_rx (w : World) (rb : Nat) (lv : Value) (k : Nat) (xs : List Lx) (hr : IsRx w rb lv k) (hl : RdXs w rb lv xs) (hkx : k < xs.length) (_hk : xs.length < 1000000) :
    Calls Tryd.prog 37 #[.pointer (some ⟨rb, 0, none⟩)] w (NextPost w (lxAt xs k)) := by
  obtain ⟨c0, c1, f1, hrs⟩ := hr.cells
  obtain ⟨x, hxe⟩ : ∃ x, lxAt xs k = x := ⟨_, rfl⟩
  obtain ⟨b, off, cc, rfl, hcc, hbs, hml, d0, d1, d2, d3⟩ := lx_reads hl hkx hxe
  have hbs' : b < w.heap.size := by omega
  rw [hxe]
  clear hr hl hxe
  go_enter Tryd.func37, Tryd.ntmps37
  go_wp2_with fail
  go_region
  go_wp2_with fail
  refine bodyPost_ret (v := .agg #[.int .i64 x.kind, .string (str x.text), .int .i64 x.num, .int .i64 x.off]) (by simp [results, Tryd.results37, go_sem]) rfl ⟨rfl, ?_⟩
  exact ((Below.refl _ _).alloc (Nat.le_refl _) _).drew

/-- A fault thrown by the parser. -/
def Thrown (er off : Int) : Ending := .panicked [{ v := .iface 62 (.agg #[.int .i64 er, .int .i64 off]), recovered := false }]
def FailPost (w : World) (er off : Int) (e : Ending) (w' : World) : Prop := e = Thrown er off ∧ Below w.heap.size w w'

theorem rx_field3 (k n q : Int) (t : ByteArray) (W : World) : (Instr.field 49 (.agg #[.int .i64 k, .string t, .int .i64 n, .int .i64 q]) 3).run Tryd.prog W = .ok (.int .i64 q) W := by kernel_rfl

set_option maxRecDepth 100000 in
set_option maxHeartbeats 400000 in
theorem fail_rx (w : World) (rb : Nat) (lv : Value) (k : Nat) (xs : List Lx) (er : Int) (hr : IsRx w rb lv k) (hl : RdXs w rb lv xs) (hkx : k < xs.length) (hk : xs.length < 1000000) :
    Calls Tryd.prog 38 #[.pointer (some ⟨rb, 0, none⟩), .int .i64 er] w (FailPost w er (lxAt xs k).off) := by
  have HN := Lib.hid (next_rx w rb lv k xs hr hl hkx hk)
  clear hr hl
  obtain ⟨x, hxe⟩ : ∃ x, lxAt xs k = x := ⟨_, rfl⟩
  rw [hxe] at HN
  rw [hxe]
  clear hxe
  have lf := rx_field3
  go_enter Tryd.func38, Tryd.ntmps38
  go_wp2_with fail
  refine HN.out.mono ?_
  rintro e w1 ⟨he, hb⟩
  subst he
  have HB := Lib.hid hb
  clear hb
  go_wp2_with fail
  exact ⟨rfl, rfl, HB.out⟩

set_option maxRecDepth 100000 in
set_option maxHeartbeats 400000 in
theorem isWord_rx (w : World) (rb : Nat) (lv : Value) (k : Nat) (xs : List Lx) (t : ByteArray) (hr : IsRx w rb lv k) (hl : RdXs w rb lv xs) (hkx : k < xs.length) (hk : xs.length < 1000000) :
    Calls Tryd.prog 48 #[.pointer (some ⟨rb, 0, none⟩), .string t] w (BoolB (isWd xs k (bts t)) w) := by
  have HN := Lib.hid (next_rx w rb lv k xs hr hl hkx hk)
  clear hr hl
  unfold isWd
  obtain ⟨x, hxe⟩ : ∃ x, lxAt xs k = x := ⟨_, rfl⟩
  rw [hxe] at HN
  rw [hxe]
  clear hxe
  have ht := str_eqC x.text t
  obtain ⟨m, hm⟩ : ∃ m, (x.text == bts t) = m := ⟨_, rfl⟩
  rw [hm] at ht
  obtain ⟨q, hq⟩ : ∃ q, lxIs x 1 (bts t) = q := ⟨_, rfl⟩
  have HLX := Lib.hid (show q = (x.kind == 1 && m) by rw [← hq, lxIs, hm])
  rw [hq]
  clear hm hq
  go_enter Tryd.func48, Tryd.ntmps48
  go_wp2_with fail
  refine HN.out.mono ?_
  rintro e w1 ⟨he, hb⟩
  subst he
  have HB := Lib.hid hb
  have hsz := hb.size
  clear hb
  cases hkk : (x.kind == 1) with
  | true =>
    rw [hkk] at HLX
    have hle : q = m := HLX.out
    subst hle
    go_wp2_with fail
    go_ret
    exact ⟨rfl, HB.out.alloc hsz _⟩
  | false =>
    rw [hkk] at HLX
    have hle : q = false := HLX.out
    subst hle
    go_wp2_with fail
    go_ret
    exact ⟨rfl, HB.out.alloc hsz _⟩

set_option maxRecDepth 100000 in
set_option maxHeartbeats 400000 in
theorem isMark_rx (w : World) (rb : Nat) (lv : Value) (k : Nat) (xs : List Lx) (t : ByteArray) (hr : IsRx w rb lv k) (hl : RdXs w rb lv xs) (hkx : k < xs.length) (hk : xs.length < 1000000) :
    Calls Tryd.prog 74 #[.pointer (some ⟨rb, 0, none⟩), .string t] w (BoolB (isMk xs k (bts t)) w) := by
  have HN := Lib.hid (next_rx w rb lv k xs hr hl hkx hk)
  clear hr hl
  unfold isMk
  obtain ⟨x, hxe⟩ : ∃ x, lxAt xs k = x := ⟨_, rfl⟩
  rw [hxe] at HN
  rw [hxe]
  clear hxe
  have ht := str_eqC x.text t
  obtain ⟨m, hm⟩ : ∃ m, (x.text == bts t) = m := ⟨_, rfl⟩
  rw [hm] at ht
  obtain ⟨q, hq⟩ : ∃ q, lxIs x 3 (bts t) = q := ⟨_, rfl⟩
  have HLX := Lib.hid (show q = (x.kind == 3 && m) by rw [← hq, lxIs, hm])
  rw [hq]
  clear hm hq
  go_enter Tryd.func74, Tryd.ntmps74
  go_wp2_with fail
  refine HN.out.mono ?_
  rintro e w1 ⟨he, hb⟩
  subst he
  have HB := Lib.hid hb
  have hsz := hb.size
  clear hb
  cases hkk : (x.kind == 3) with
  | true =>
    rw [hkk] at HLX
    have hle : q = m := HLX.out
    subst hle
    go_wp2_with fail
    go_ret
    exact ⟨rfl, HB.out.alloc hsz _⟩
  | false =>
    rw [hkk] at HLX
    have hle : q = false := HLX.out
    subst hle
    go_wp2_with fail
    go_ret
    exact ⟨rfl, HB.out.alloc hsz _⟩

def ExpectPost (w : World) (rb : Nat) (lv : Value) (k : Nat) (ok : Bool) (off : Int) (e : Ending) (w' : World) : Prop :=
  w.grownBy w' (some rb) ∧ (if ok then e = .returned (.tuple #[]) ∧ IsRx w' rb lv (k + 1) else e = Thrown 5 off)

set_option maxRecDepth 100000 in
set_option maxHeartbeats 400000 in
theorem expect_rx (w : World) (rb : Nat) (lv : Value) (k : Nat) (xs : List Lx) (ok : Bool) (hr : IsRx w rb lv k) (hl : RdXs w rb lv xs) (hkx : k < xs.length) (hk : xs.length < 1000000) :
    Calls Tryd.prog 73 #[.pointer (some ⟨rb, 0, none⟩), .bool ok] w (ExpectPost w rb lv k ok (lxAt xs k).off) := by
  have HF := Lib.hid (fail_rx w rb lv k xs 5 hr hl hkx hk)
  have HR := Lib.hid hr
  obtain ⟨c0, c1, f1, hrb⟩ := hr.cells
  clear hr hl
  obtain ⟨p, hp⟩ : ∃ p, (lxAt xs k).off = p := ⟨_, rfl⟩
  rw [hp] at HF
  rw [hp]
  clear hp
  cases ok with
  | true =>
    go_enter Tryd.func73, Tryd.ntmps73
    go_wp2_with fail
    refine bodyPost_ret (results_none rfl _ _ _) rfl ⟨gb_set gb_refl _, ?_⟩
    exact ⟨rfl, HR.out.set (k + 1)⟩
  | false =>
    clear c0 c1 f1
    go_enter Tryd.func73, Tryd.ntmps73
    go_wp2_with fail
    refine HF.out.mono ?_
    rintro e w1 ⟨he, hb⟩
    have HB := Lib.hid (gb_belowS (row := some rb) gb_refl hb)
    subst he
    clear hb
    exact ⟨rfl, HB.out, rfl⟩

def NodePost (w : World) (op : Int) (sv : Value) (e : Ending) (w' : World) : Prop := e = .returned (.agg #[.int .i64 op, .int .i64 0, .string (str []), sv]) ∧ Below w.heap.size w w'
set_option maxRecDepth 100000 in
set_option maxHeartbeats 400000 in
theorem node_any (w : World) (op : Int) (A : Option Addr) (n c : Nat) : Calls Tryd.prog 89 #[.int .i64 op, .slice A n c] w (NodePost w op (.slice A n c)) := by
  go_enter Tryd.func89, Tryd.ntmps89
  go_wp2_with fail
  refine bodyPost_ret (v := .agg #[.int .i64 op, .int .i64 0, .string (str []), .slice A n c]) (by simp [results, Tryd.results89, go_sem, str]) rfl ⟨rfl, ?_⟩
  exact bel_alloc (Below.refl _ _)

end Go.Proofs.YtkalkglllgebkaaDoor
