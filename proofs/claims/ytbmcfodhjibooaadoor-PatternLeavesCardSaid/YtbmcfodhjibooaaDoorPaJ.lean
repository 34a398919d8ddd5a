/-
  The contracts of the parser's methods next, fail, try, take, number (package pattern).
-/
import Derived.Test.YtbmcfodhjibooaaDoorPaI
import Derived.Test.YtbmcfodhjibooaaDoorPaP
import Derived.Test.YtbmcfodhjibooaaDoorLexA
namespace Go.Proofs.YtbmcfodhjibooaaDoor
open Go.RowKit Saw Go.Sort

/-- The parser's block: its lexemes, its state, its nodes. -/
def IsPs (w : World) (rb : Nat) (lv nv : Value) (s : Ps) : Prop := w.heap[rb]? = some (.cells #[lv, .int .i64 s.k, .int .i64 s.e, .int .i64 s.off, nv] 107 (0, 0))
section
variable {w w' : World} {rb g : Nat} {lv nv : Value} {s : Ps}
theorem IsPs.cells (h : IsPs w rb lv nv s) : w.cell? ⟨rb, 0, none⟩ = some lv ∧ w.cell? ⟨rb, 1, none⟩ = some (.int .i64 s.k) ∧ w.cell? ⟨rb, 2, none⟩ = some (.int .i64 s.e) ∧ w.cell? ⟨rb, 3, none⟩ = some (.int .i64 s.off) ∧ w.cell? ⟨rb, 4, none⟩ = some nv ∧
    (∀ i, w.frozen? ⟨rb, i, none⟩ = false) ∧ rb < w.heap.size := by
  obtain ⟨a0, a1, a2, a3, a4⟩ := cells5 h
  exact ⟨a0, a1, a2, a3, a4, frz h, (Array.getElem?_eq_some_iff.1 h).1⟩
theorem IsPs.below (h : IsPs w rb lv nv s) (hb : Below w.heap.size w w') : IsPs w' rb lv nv s := (hb.block rb (Array.getElem?_eq_some_iff.1 h).1).trans h
theorem IsPs.alloc (h : IsPs w rb lv nv s) (o : Obj) : IsPs (w.alloc o) rb lv nv s := hpA h o
theorem IsPs.setK (h : IsPs w rb lv nv s) {k : Nat} {v : Int} (e : v = k) : IsPs (w.setCell ⟨rb, 1, none⟩ (.int .i64 v)) rb lv nv ⟨k, s.e, s.off⟩ := by
  unfold IsPs
  rw [setCell_eq_setRow w rb 1 _ _ _ _ h, setRow_heap _ _ _ _ _ _ h, e]
  rfl
theorem IsPs.setE (h : IsPs w rb lv nv s) (e : Int) : IsPs (w.setCell ⟨rb, 2, none⟩ (.int .i64 e)) rb lv nv ⟨s.k, e, s.off⟩ := by
  unfold IsPs
  rw [setCell_eq_setRow w rb 2 _ _ _ _ h, setRow_heap _ _ _ _ _ _ h]
  rfl
theorem IsPs.setO (h : IsPs w rb lv nv s) (o : Int) : IsPs (w.setCell ⟨rb, 3, none⟩ (.int .i64 o)) rb lv nv ⟨s.k, s.e, o⟩ := by
  unfold IsPs
  rw [setCell_eq_setRow w rb 3 _ _ _ _ h, setRow_heap _ _ _ _ _ _ h]
  rfl
theorem IsPs.setN (h : IsPs w rb lv nv s) (nv' : Value) : IsPs (w.setCell ⟨rb, 4, none⟩ nv') rb lv nv' s := by
  unfold IsPs
  rw [setCell_eq_setRow w rb 4 _ _ _ _ h, setRow_heap _ _ _ _ _ _ h]
  rfl
end
theorem gb_below {w w' : World} {row : Option Nat} (hb : Below w.heap.size w w') : w.grownBy w' row := ⟨hb.os, hb.tape, hb.output, hb.size, fun k hk _ => hb.block k hk⟩
theorem gb_cell {w w' : World} {rb i : Nat} {v : Value} (h : w.grownBy w' (some rb)) : w.grownBy (w'.setCell ⟨rb, i, none⟩ v) (some rb) :=
  ⟨h.os, h.tape, h.output, by simpa [World.setCell] using h.size, fun k hk hne => (Below.heap_setCell _ _ _ _ (fun e => hne (by rw [e]))).trans (h.block k hk hne)⟩
theorem gb_al {w w' : World} {row : Option Nat} (h : w.grownBy w' row) (o : Obj) : w.grownBy (w'.alloc o) row :=
  ⟨h.os, h.tape, h.output, by rw [World.size_alloc]; exact Nat.le_succ_of_le h.size, fun k hk hne => (Below.heap_alloc _ _ _ (Nat.lt_of_lt_of_le hk h.size)).trans (h.block k hk hne)⟩
theorem gb_below2 {w w' W : World} {row : Option Nat} (h : w.grownBy W row) (hb : Below W.heap.size W w') : w.grownBy w' row :=
  ⟨hb.os.trans h.os, hb.tape.trans h.tape, hb.output.trans h.output, Nat.le_trans h.size hb.size, fun k hk hne => (hb.block k (Nat.lt_of_lt_of_le hk h.size)).trans (h.block k hk hne)⟩
theorem gb_tr {w w' W : World} {row : Option Nat} (h : w.grownBy W row) (hb : W.grownBy w' row) : w.grownBy w' row :=
  ⟨hb.os.trans h.os, hb.tape.trans h.tape, hb.output.trans h.output, Nat.le_trans h.size hb.size, fun k hk hne => (hb.block k (Nat.lt_of_lt_of_le hk h.size) hne).trans (h.block k hk hne)⟩
/-- The lexemes as they lie, while the block rb may turn. -/
def Lxs (w : World) (B : Nat) (lv : Value) (xs : List Lx) : Prop := Rd w B 4 lv xs.length (lxsCells xs)
theorem Lxs.kept {w w' : World} {B rb : Nat} {lv : Value} {xs : List Lx} (h : Lxs w B lv xs) (hg : w.grownBy w' (some rb)) (hB : B ≤ rb) (hs : B ≤ w.heap.size) : Lxs w' B lv xs :=
  Rd.keep h fun p hp => World.cell?_of_block (a := p) (hg.block p.block (by omega) (fun e => by injection e; omega))
theorem lx_info : (Tryd.prog.info? 109).map (·.size) = some 4 := by kernel_rfl

theorem lx_f3 (a : Int) (b : ByteArray) (c d : Int) (W : World) : (Instr.field 109 (.agg #[.int .i64 a, .string b, .int .i64 c, .int .i64 d]) 3).run Tryd.prog W = .ok (.int .i64 d) W := by kernel_rfl
theorem lx_f0 (a : Int) (b : ByteArray) (c d : Int) (W : World) : (Instr.field 109 (.agg #[.int .i64 a, .string b, .int .i64 c, .int .i64 d]) 0).run Tryd.prog W = .ok (.int .i64 a) W := by kernel_rfl

def NextPo (w : World) (x : Lx) (e : Ending) (w' : World) : Prop := e = .returned (.agg #[.int .i64 x.kind, .string (str x.text), .int .i64 x.num, .int .i64 x.off]) ∧ Below w.heap.size w w'

set_option maxRecDepth 100000 in
set_option maxHeartbeats 1000000 in
theorem next_ps (w : World) (rb B : Nat) (lv nv : Value) (s : Ps) (xs : List Lx) (hr : IsPs w rb lv nv s) (hl : Lxs w B lv xs) (hB : B ≤ rb) (hkx : s.k < xs.length) (hk : xs.length < 1000000) :
    Calls Tryd.prog 62 #[.pointer (some ⟨rb, 0, none⟩)] w (NextPo w (lxAt xs s.k)) := by
  obtain ⟨c0, c1, c2, c3, c4, cf, hrs⟩ := hr.cells
  obtain ⟨k, hke⟩ : ∃ k, s.k = k := ⟨_, rfl⟩
  rw [hke] at c1 hkx ⊢
  obtain ⟨x, hxe⟩ : ∃ x, lxAt xs k = x := ⟨_, rfl⟩
  have hx := lxAt_some hkx
  rw [hxe] at hx
  rw [hxe]
  obtain ⟨_, hml, A, cp, rfl, hcp, hcs⟩ := id hl
  obtain ⟨b, off, rfl, hbs, hcell⟩ := hcs (by omega)
  obtain ⟨k0, k1, k2, k3⟩ := lxs_at xs k x hx
  have d0 := hcell _ _ k0
  have d1 := hcell _ _ k1
  rw [← Nat.add_assoc] at d1
  have d2 := hcell _ _ k2
  rw [← Nat.add_assoc] at d2
  have d3 := hcell _ _ k3
  rw [← Nat.add_assoc] at d3
  unfold maxLen at hml
  have hbw : b < w.heap.size := by omega
  have HR := Lib.hid hr
  clear hr hl hx hcell hcs k0 k1 k2 k3 hxe
  go_enter Tryd.func62, Tryd.ntmps62
  go_wp2_with fail
  go_region
  go_wp2_with fail
  refine bodyPost_ret (v := .agg #[.int .i64 x.kind, .string (str x.text), .int .i64 x.num, .int .i64 x.off]) ?_ rfl ⟨rfl, ((Below.refl _ _).alloc (Nat.le_refl _) _).drew⟩
  exact results_cell1 Tryd.results62 _ _ w.heap.size 0 [.int .i64 x.kind, .string (str x.text), .int .i64 x.num, .int .i64 x.off] rfl (rangeAt_block (show (w.alloc (.cells #[.int .i64 x.kind, .string (str x.text), .int .i64 x.num, .int .i64 x.off] 109)).drew.heap[w.heap.size]? = _ from heap_alloc_last w _)) Tryd.underlying109 rfl lx_info

/-- What a method leaves: the parser in its new state; no other block of those that were has turned. -/
def PsPost (w : World) (rb : Nat) (lv nv : Value) (s : Ps) (v : Value) (e : Ending) (w' : World) : Prop := e = .returned v ∧ IsPs w' rb lv nv s ∧ w.grownBy w' (some rb)
/-- As PsPost, where nothing is handed back. -/
def PsDone (w : World) (rb : Nat) (lv nv : Value) (s : Ps) (e : Ending) (w' : World) : Prop := (∃ v, e = .returned v) ∧ IsPs w' rb lv nv s ∧ w.grownBy w' (some rb)

set_option maxHeartbeats 1000000 in
theorem fail_ps (w : World) (rb : Nat) (lv nv : Value) (s : Ps) (e off : Int) (hr : IsPs w rb lv nv s) :
    Calls Tryd.prog 65 #[.pointer (some ⟨rb, 0, none⟩), .int .i64 e, .int .i64 off] w (PsDone w rb lv nv (failQ s e off)) := by
  obtain ⟨c0, c1, c2, c3, c4, cf, hrs⟩ := hr.cells
  obtain ⟨t, ht⟩ : ∃ t, failQ s e off = t := ⟨_, rfl⟩
  rw [ht]
  unfold failQ at ht
  have HT := Lib.hid ht
  have HR := Lib.hid hr
  obtain ⟨se, hse⟩ : ∃ se, s.e = se := ⟨_, rfl⟩
  rw [hse] at c2 HT
  clear ht hr
  by_cases h0 : se = 0
  · have hb : (se == 0) = true := by rw [beq_iff_eq]; exact h0
    have HZ := Lib.hid h0
    clear h0
    go_enter Tryd.func65, Tryd.ntmps65
    go_wp2_with fail
    refine bodyPost_ret (results_none rfl _ _ _) rfl ⟨⟨_, rfl⟩, ?_, gb_cell (gb_cell gb_refl)⟩
    have h := (HR.out.setE e).setO off
    rw [← HT.out, if_pos HZ.out]
    exact h
  · have hb : (se == 0) = false := by rw [beq_eq_false_iff_ne]; exact h0
    have HZ := Lib.hid h0
    clear h0
    go_enter Tryd.func65, Tryd.ntmps65
    go_wp2_with fail
    refine bodyPost_ret (results_none rfl _ _ _) rfl ⟨⟨_, rfl⟩, ?_, gb_refl⟩
    rw [← HT.out, if_neg HZ.out]
    exact HR.out

theorem str_ne (a : List UInt8) (s : ByteArray) : ((str a).toList == s.toList) = (a == bts s) := by rw [toList_bts, toList_bts, bts_str]

set_option maxRecDepth 100000 in
set_option maxHeartbeats 2000000 in
theorem try_ps (w : World) (rb B : Nat) (lv nv : Value) (s : Ps) (xs : List Lx) (kind : Int) (t : ByteArray) (hr : IsPs w rb lv nv s) (hl : Lxs w B lv xs) (hB : B ≤ rb) (hkx : s.k < xs.length) (hk : xs.length < 1000000) :
    Calls Tryd.prog 90 #[.pointer (some ⟨rb, 0, none⟩), .int .i64 kind, .string t] w (PsPost w rb lv nv (trySt xs s kind (bts t)) (.bool (tryQ xs s kind (bts t)))) := by
  have HN := Lib.hid (next_ps w rb B lv nv s xs hr hl hB hkx hk)
  obtain ⟨x, hx⟩ : ∃ x, lxAt xs s.k = x := ⟨_, rfl⟩
  rw [hx] at HN
  obtain ⟨m, hm⟩ : ∃ m, tryQ xs s kind (bts t) = m := ⟨_, rfl⟩
  have hts : trySt xs s kind (bts t) = if m = true then ⟨s.k + 1, s.e, s.off⟩ else s := by rw [trySt, hm]
  rw [hts, hm]
  have hq : m = (decide (s.e = 0) && (x.kind == kind && x.text == bts t)) := by rw [← hm, tryQ, hx, lxIs]
  obtain ⟨se, hse⟩ : ∃ se, s.e = se := ⟨_, rfl⟩
  rw [hse] at hq
  have ht := str_ne x.text t
  obtain ⟨mt, hmt⟩ : ∃ mt, (x.text == bts t) = mt := ⟨_, rfl⟩
  rw [hmt] at ht hq
  have htp : ((str x.text).toList = t.toList) ↔ mt = true := by rw [← ht, beq_iff_eq]
  have HR := Lib.hid hr
  have HQ := Lib.hid hq
  have HSE := Lib.hid hse
  have hrb := hr.cells.2.2.2.2.2.2
  have hkk : s.k < 1000000 := by omega
  clear hx hm hts hq hmt hr hl hse
  have sub : ∀ w1, Below w.heap.size w w1 → IsPs w1 rb lv nv s ∧ w.grownBy w1 (some rb) := fun w1 hb => ⟨HR.out.below hb, gb_below hb⟩
  have SUB := Lib.hid sub
  clear sub
  by_cases h0 : se = 0
  · have he0 : (se != 0) = false := by rw [bne_eq_false_iff_eq]; exact h0
    by_cases h1 : x.kind = kind
    · have he1 : (x.kind != kind) = false := by rw [bne_eq_false_iff_eq]; exact h1
      cases mt with
      | true =>
        have hz : m = true := by rw [HQ.out, decide_eq_true h0, beq_iff_eq.2 h1]; rfl
        have hte : (str x.text).toList = t.toList := htp.2 rfl
        subst hz
        clear HQ h0 h1 htp
        go_enter Tryd.func90, Tryd.ntmps90
        go_wp2_with fail
        refine HN.out.mono ?_
        rintro e w1 ⟨he, hb⟩
        subst he
        have HS := Lib.hid (SUB.out w1 hb)
        obtain ⟨c0, c1, c2, c3, c4, cf, hrs⟩ := (SUB.out w1 hb).1.cells
        rw [HSE.out] at c2
        have hsz := hb.size
        clear hb
        go_wp2_with fail
        go_ret
        exact ⟨rfl, (HS.out.1.setK (k := s.k + 1) (by simp)).alloc _, gb_al (gb_cell HS.out.2) _⟩
      | false =>
        have hz : m = false := by rw [HQ.out, Bool.and_false, Bool.and_false]
        have hte : ¬ (str x.text).toList = t.toList := fun h => by have := htp.1 h; cases this
        subst hz
        clear HQ h0 h1 htp
        go_enter Tryd.func90, Tryd.ntmps90
        go_wp2_with fail
        refine HN.out.mono ?_
        rintro e w1 ⟨he, hb⟩
        subst he
        have HS := Lib.hid (SUB.out w1 hb)
        obtain ⟨c0, c1, c2, c3, c4, cf, hrs⟩ := (SUB.out w1 hb).1.cells
        rw [HSE.out] at c2
        have hsz := hb.size
        clear hb
        go_wp2_with fail
        go_ret
        exact ⟨rfl, HS.out.1.alloc _, gb_al HS.out.2 _⟩
    · have he1 : (x.kind != kind) = true := by rw [bne_iff_ne]; exact h1
      have hz : m = false := by rw [HQ.out, show (x.kind == kind) = false by rw [beq_eq_false_iff_ne]; exact h1, Bool.false_and, Bool.and_false]
      subst hz
      clear HQ h0 h1 htp
      go_enter Tryd.func90, Tryd.ntmps90
      go_wp2_with fail
      refine HN.out.mono ?_
      rintro e w1 ⟨he, hb⟩
      subst he
      have HS := Lib.hid (SUB.out w1 hb)
      obtain ⟨c0, c1, c2, c3, c4, cf, hrs⟩ := (SUB.out w1 hb).1.cells
      rw [HSE.out] at c2
      have hsz := hb.size
      clear hb
      go_wp2_with fail
      go_ret
      exact ⟨rfl, HS.out.1.alloc _, gb_al HS.out.2 _⟩
  · have he0 : (se != 0) = true := by rw [bne_iff_ne]; exact h0
    have hz : m = false := by rw [HQ.out, decide_eq_false h0, Bool.false_and]
    subst hz
    clear HQ h0 htp
    go_enter Tryd.func90, Tryd.ntmps90
    go_wp2_with fail
    refine HN.out.mono ?_
    rintro e w1 ⟨he, hb⟩
    subst he
    have HS := Lib.hid (SUB.out w1 hb)
    obtain ⟨c0, c1, c2, c3, c4, cf, hrs⟩ := (SUB.out w1 hb).1.cells
    rw [HSE.out] at c2
    have hsz := hb.size
    clear hb
    go_wp2_with fail
    go_ret
    exact ⟨rfl, HS.out.1.alloc _, gb_al HS.out.2 _⟩

set_option maxRecDepth 100000 in
set_option maxHeartbeats 1000000 in
theorem take_ps (w : World) (rb B : Nat) (lv nv : Value) (s : Ps) (xs : List Lx) (kind : Int) (t : ByteArray) (hr : IsPs w rb lv nv s) (hl : Lxs w B lv xs) (hB : B ≤ rb) (hkx : s.k < xs.length) (hk : xs.length < 1000000) :
    Calls Tryd.prog 63 #[.pointer (some ⟨rb, 0, none⟩), .int .i64 kind, .string t] w (PsDone w rb lv nv (takeQ xs s kind (bts t))) := by
  have hrb := hr.cells.2.2.2.2.2.2
  have HT := Lib.hid (try_ps w rb B lv nv s xs kind t hr hl hB hkx hk)
  obtain ⟨m, hm⟩ : ∃ m, tryQ xs s kind (bts t) = m := ⟨_, rfl⟩
  obtain ⟨s2, hs2⟩ : ∃ s2, trySt xs s kind (bts t) = s2 := ⟨_, rfl⟩
  have hs2m := hs2
  rw [trySt, hm] at hs2m
  rw [hm, hs2] at HT
  have HTK := Lib.hid (show takeQ xs s kind (bts t) = if m = true then ⟨s.k + 1, s.e, s.off⟩ else failQ s 5 (lxAt xs s.k).off by rw [takeQ, hm])
  obtain ⟨r, hr2⟩ : ∃ r, takeQ xs s kind (bts t) = r := ⟨_, rfl⟩
  rw [hr2] at HTK ⊢
  have HS2 := Lib.hid hs2m
  have HLX := Lib.hid hl
  clear hm hs2 hs2m hr2 hl hr
  cases m with
  | true =>
    go_enter Tryd.func63, Tryd.ntmps63
    go_wp2_with fail
    refine HT.out.mono ?_
    rintro e w1 ⟨he, hi, hg⟩
    subst he
    have HI := Lib.hid hi
    have HG := Lib.hid hg
    clear hi hg
    go_wp2_with fail
    refine bodyPost_ret (results_none rfl _ _ _) rfl ⟨⟨_, rfl⟩, ?_, HG.out⟩
    have h1 := HTK.out
    have h2 := HS2.out
    simp only [if_true] at h1 h2
    rw [h1, h2]
    exact HI.out
  | false =>
    have hss : s2 = s := by have := HS2.out; simp only [Bool.false_eq_true, if_false] at this; exact this.symm
    subst hss
    go_enter Tryd.func63, Tryd.ntmps63
    go_wp2_with fail
    refine HT.out.mono ?_
    rintro e w1 ⟨he, hi, hg⟩
    subst he
    have HI := Lib.hid hi
    have HG := Lib.hid hg
    have HN := Lib.hid (next_ps w1 rb B lv nv s2 xs hi (HLX.out.kept hg hB (by omega)) hB hkx hk)
    clear hi hg
    go_wp2_with fail
    refine HN.out.mono ?_
    rintro e w2 ⟨he, hb2⟩
    subst he
    have HI2 := Lib.hid (HI.out.below hb2)
    have HG2 := Lib.hid (gb_below2 HG.out hb2)
    clear hb2
    have F3 := lx_f3
    go_wp2_with fail
    refine (fail_ps w2 rb lv nv s2 5 _ HI2.out).mono ?_
    rintro e w3 ⟨⟨v, he⟩, hi, hg⟩
    subst he
    have HI3 := Lib.hid hi
    have HG3 := Lib.hid (gb_tr HG2.out hg)
    clear hi hg
    go_wp2_with fail
    refine bodyPost_ret (results_none rfl _ _ _) rfl ⟨⟨_, rfl⟩, ?_, HG3.out⟩
    have h1 := HTK.out
    simp only [Bool.false_eq_true, if_false] at h1
    rw [h1]
    exact HI3.out

/-! number -/
set_option maxRecDepth 100000 in
set_option maxHeartbeats 4000000 in
theorem number_ps (w : World) (rb B : Nat) (lv nv : Value) (s : Ps) (xs : List Lx) (lo hi : Int) (hr : IsPs w rb lv nv s) (hl : Lxs w B lv xs) (hB : B ≤ rb) (hend : LxEnds xs) (hkx : s.k < xs.length) (hk : xs.length < 1000000) (hnm : ∀ x ∈ xs, 0 ≤ x.num ∧ x.num ≤ 1099511627776) :
    Calls Tryd.prog 64 #[.pointer (some ⟨rb, 0, none⟩), .int .i64 lo, .int .i64 hi] w (PsPost w rb lv nv (numQ xs s lo hi).2 (.int .i64 (numQ xs s lo hi).1)) := by
  have hrb := hr.cells.2.2.2.2.2.2
  have HN := Lib.hid (next_ps w rb B lv nv s xs hr hl hB hkx hk)
  have HR := Lib.hid hr
  have HLX := Lib.hid hl
  obtain ⟨off, hoff⟩ : ∃ off, (lxAt xs s.k).off = off := ⟨_, rfl⟩
  obtain ⟨m, hm⟩ : ∃ m, tryQ xs s 3 [45] = m := ⟨_, rfl⟩
  obtain ⟨s1, hs1⟩ : ∃ s1, num1 xs s = s1 := ⟨_, rfl⟩
  have hs1k : s1.k < xs.length := by rw [← hs1]; exact trySt_in hend (by decide) hkx
  obtain ⟨y, hy⟩ : ∃ y, lxAt xs s1.k = y := ⟨_, rfl⟩
  have hyn : 0 ≤ y.num ∧ y.num ≤ 1099511627776 := by rw [← hy]; exact hnm _ (List.mem_of_getElem? (lxAt_some hs1k))
  obtain ⟨R, hR⟩ : ∃ R, numQ xs s lo hi = R := ⟨_, rfl⟩
  have h2 : num2 xs s = if y.kind ≠ 2 ∨ (m = true ∧ y.num = 0) then failQ s1 5 y.off else s1 := by rw [num2, hs1, hy, hm]
  have hv : numV xs s = if m = true then -y.num else y.num := by rw [numV, hs1, hy, hm]
  have h45 : bts ⟨#[45]⟩ = [45] := rfl
  have HTRY := Lib.hid (fun (W : World) (hr : IsPs W rb lv nv s) (hl : Lxs W B lv xs) => (show Calls Tryd.prog 90 #[.pointer (some ⟨rb, 0, none⟩), .int .i64 3, .string ⟨#[45]⟩] W (PsPost W rb lv nv s1 (.bool m)) by
    have := try_ps W rb B lv nv s xs 3 ⟨#[45]⟩ hr hl hB hkx hk
    rw [h45, hm, show trySt xs s 3 [45] = s1 from hs1] at this
    exact this))
  have HNX := Lib.hid (fun (W : World) (hr : IsPs W rb lv nv s1) (hl : Lxs W B lv xs) => (show Calls Tryd.prog 62 #[.pointer (some ⟨rb, 0, none⟩)] W (NextPo W y) by
    have := next_ps W rb B lv nv s1 xs hr hl hB hs1k hk
    rw [hy] at this
    exact this))
  have H2 := Lib.hid h2
  have HV := Lib.hid hv
  have HRR := Lib.hid hR
  have HNQ := Lib.hid (show (if (num2 xs s).e ≠ 0 then (0, num2 xs s) else (numV xs s, if numV xs s < lo ∨ hi < numV xs s then failQ ⟨(num2 xs s).k + 1, (num2 xs s).e, (num2 xs s).off⟩ 9 off else ⟨(num2 xs s).k + 1, (num2 xs s).e, (num2 xs s).off⟩)) = R by rw [← hR, numQ, hoff])
  rw [hR]
  obtain ⟨x, hx⟩ : ∃ x, lxAt xs s.k = x := ⟨_, rfl⟩
  rw [hx] at HN hoff
  have HOF := Lib.hid hoff
  have hsk : s1.k < 1000000 := by omega
  clear hr hl hoff hm hs1 hy hR h2 hv hx hnm hend
  have F3 := lx_f3
  go_enter Tryd.func64, Tryd.ntmps64
  go_wp2_with fail
  refine HN.out.mono ?_
  rintro e w1 ⟨he, hb1⟩
  rw [HOF.out] at he
  subst he
  have HR1 := Lib.hid (HR.out.below hb1)
  have HG1 := Lib.hid (gb_below (row := some rb) hb1)
  have hz1 := hb1.size
  clear hb1
  go_wp2_with fail
  refine (HTRY.out w1 HR1.out (HLX.out.kept HG1.out hB (by omega))).mono ?_
  rintro e w2 ⟨he, hi2, hg2⟩
  subst he
  have HR2 := Lib.hid (show IsPs w2 rb lv nv s1 from hi2)
  have HG2 := Lib.hid (gb_tr HG1.out hg2)
  have hz2 := hg2.size
  clear hi2 hg2
  go_wp2_with fail
  refine (HNX.out w2 HR2.out (HLX.out.kept HG2.out hB (by omega))).mono ?_
  rintro e w3 ⟨he, hb3⟩
  subst he
  have HR3 := Lib.hid (HR2.out.below hb3)
  have HG3 := Lib.hid (gb_below2 HG2.out hb3)
  have hz3 := hb3.size
  obtain ⟨c0, c1, c2, c3, c4, cf, hrs⟩ := HR3.out.cells
  clear hb3
  obtain ⟨W4, hW4⟩ : ∃ W4, w3.alloc (.cells #[.int .i64 y.kind, .string (str y.text), .int .i64 y.num, .int .i64 y.off] 109) = W4 := ⟨_, rfl⟩
  have HR4 := Lib.hid (show IsPs W4 rb lv nv s1 by rw [← hW4]; exact HR3.out.alloc _)
  have HG4 := Lib.hid (show w.grownBy W4 (some rb) by rw [← hW4]; exact gb_al HG3.out _)
  have hz4 : W4.heap.size = w3.heap.size + 1 := by rw [← hW4, World.size_alloc]
  have HY4 := Lib.hid (show W4.heap[w3.heap.size]? = some (.cells #[.int .i64 y.kind, .string (str y.text), .int .i64 y.num, .int .i64 y.off] 109 (0, 0)) by rw [← hW4]; exact heap_alloc_last w3 _)
  have bad : (y.kind ≠ 2 ∨ (m = true ∧ y.num = 0)) → R = (0, failQ s1 5 y.off) := fun h => by
    have h2 := H2.out
    rw [if_pos h] at h2
    rw [← HNQ.out, h2, if_pos (failQ_e (by decide))]
  have BAD := Lib.hid bad
  have good : ¬ (y.kind ≠ 2 ∨ (m = true ∧ y.num = 0)) → (s1.e ≠ 0 → R = (0, s1)) ∧ (s1.e = 0 → R = (if m = true then -y.num else y.num, if (if m = true then -y.num else y.num) < lo ∨ hi < (if m = true then -y.num else y.num) then failQ ⟨s1.k + 1, s1.e, s1.off⟩ 9 off else ⟨s1.k + 1, s1.e, s1.off⟩)) := fun h => by
    have h2 := H2.out
    rw [if_neg h] at h2
    refine ⟨fun h3 => ?_, fun h3 => ?_⟩
    · rw [← HNQ.out, h2, if_pos h3]
    · rw [← HNQ.out, h2, if_neg (by rw [h3]; decide), HV.out]
  have GOOD := Lib.hid good
  clear bad good
  have failing : ∀ (a : Act) (Q : Exit → Act → World → Prop), True := fun _ _ => trivial
  clear failing
  by_cases k2 : y.kind = 2
  · have hkb : (y.kind != 2) = false := by rw [bne_eq_false_iff_eq]; exact k2
    cases m with
    | true =>
      by_cases n0 : y.num = 0
      · have hnb : (y.num == 0) = true := by rw [beq_iff_eq]; exact n0
        have hz : R = (0, failQ s1 5 y.off) := BAD.out (.inr ⟨rfl, n0⟩)
        clear BAD GOOD HNQ k2 n0
        have hfe : (failQ s1 5 y.off).e ≠ 0 := failQ_e (by decide)
        obtain ⟨s2, hs2⟩ : ∃ s2, failQ s1 5 y.off = s2 := ⟨_, rfl⟩
        rw [hs2] at hz hfe
        have hfb : (s2.e != 0) = true := by rw [bne_iff_ne]; exact hfe
        subst hz
        clear hfe
        obtain ⟨q0, q1, q2, q3⟩ := cells4 HY4.out
        go_wp2_with fail
        have HS2 := Lib.hid hs2
        refine (fail_ps W4 rb lv nv s1 5 y.off HR4.out).mono ?_
        rintro e w5 ⟨⟨v5, he⟩, hi5, hg5⟩
        rw [HS2.out] at hi5
        subst he
        have HR5 := Lib.hid hi5
        have HG5 := Lib.hid (gb_tr HG4.out hg5)
        obtain ⟨c0, c1, c2, c3, c4, cf, hrs⟩ := hi5.cells
        clear hi5 hg5
        go_wp2_with fail
        go_ret
        exact ⟨rfl, HR5.out, HG5.out⟩
      · have hnb : (y.num == 0) = false := by rw [beq_eq_false_iff_ne]; exact n0
        obtain ⟨g1, g2⟩ := GOOD.out (fun h => by
          rcases h with h | ⟨_, h⟩
          · exact h k2
          · exact n0 h)
        obtain ⟨n, hn⟩ : ∃ n, -y.num = n := ⟨_, rfl⟩
        simp only [if_true] at g2
        rw [hn] at g2
        clear BAD GOOD HNQ k2 n0
        have HHN := Lib.hid hn
        by_cases e0 : s1.e = 0
        · have heb : (s1.e != 0) = false := by rw [bne_eq_false_iff_eq]; exact e0
          have hz := g2 e0
          clear g1 g2 e0
          obtain ⟨q0, q1, q2, q3⟩ := cells4 HY4.out
          obtain ⟨c0, c1, c2, c3, c4, cf, hrs⟩ := HR4.out.cells
          by_cases z1 : n < lo
          · rw [if_pos (.inl z1)] at hz
            subst hz
            go_wp2_with fail
            first
              | refine (fail_ps _ rb lv nv ⟨s1.k + 1, s1.e, s1.off⟩ 9 off (HR4.out.setK (k := s1.k + 1) (v := (s1.k : Int) + 1) (by simp))).mono ?_
              | refine (fail_ps _ rb lv nv ⟨s1.k + 1, s1.e, s1.off⟩ 9 off ((HR3.out.setK (k := s1.k + 1) (v := (s1.k : Int) + 1) (by simp)).alloc _)).mono ?_
            rintro e w5 ⟨⟨v5, he⟩, hi5, hg5⟩
            subst he
            have HR5 := Lib.hid hi5
            have HG5 := Lib.hid (show w.grownBy w5 (some rb) by first | exact gb_tr (gb_cell HG4.out) hg5 | exact gb_tr (gb_al (gb_cell HG3.out) _) hg5)
            clear hi5 hg5
            go_wp2_with fail
            go_ret
            exact ⟨rfl, HR5.out, HG5.out⟩
          · by_cases z2 : hi < n
            · rw [if_pos (.inr z2)] at hz
              subst hz
              go_wp2_with fail
              first
                | refine (fail_ps _ rb lv nv ⟨s1.k + 1, s1.e, s1.off⟩ 9 off (HR4.out.setK (k := s1.k + 1) (v := (s1.k : Int) + 1) (by simp))).mono ?_
                | refine (fail_ps _ rb lv nv ⟨s1.k + 1, s1.e, s1.off⟩ 9 off ((HR3.out.setK (k := s1.k + 1) (v := (s1.k : Int) + 1) (by simp)).alloc _)).mono ?_
              rintro e w5 ⟨⟨v5, he⟩, hi5, hg5⟩
              subst he
              have HR5 := Lib.hid hi5
              have HG5 := Lib.hid (show w.grownBy w5 (some rb) by first | exact gb_tr (gb_cell HG4.out) hg5 | exact gb_tr (gb_al (gb_cell HG3.out) _) hg5)
              clear hi5 hg5
              go_wp2_with fail
              go_ret
              exact ⟨rfl, HR5.out, HG5.out⟩
            · rw [if_neg (by omega)] at hz
              subst hz
              go_wp2_with fail
              go_ret
              first | exact ⟨rfl, HR4.out.setK (k := s1.k + 1) (v := (s1.k : Int) + 1) (by simp), gb_cell HG4.out⟩ | exact ⟨rfl, (HR3.out.setK (k := s1.k + 1) (v := (s1.k : Int) + 1) (by simp)).alloc _, gb_al (gb_cell HG3.out) _⟩
        · have heb : (s1.e != 0) = true := by rw [bne_iff_ne]; exact e0
          have hz := g1 e0
          subst hz
          clear g1 g2 e0
          obtain ⟨q0, q1, q2, q3⟩ := cells4 HY4.out
          obtain ⟨c0, c1, c2, c3, c4, cf, hrs⟩ := HR4.out.cells
          go_wp2_with fail
          go_ret
          first | exact ⟨rfl, HR4.out, HG4.out⟩ | exact ⟨rfl, HR3.out.alloc _, gb_al HG3.out _⟩
    | false =>
      obtain ⟨g1, g2⟩ := GOOD.out (fun h => by
        rcases h with h | ⟨h, _⟩
        · exact h k2
        · cases h)
      obtain ⟨n, hn⟩ : ∃ n, y.num = n := ⟨_, rfl⟩
      simp only [Bool.false_eq_true, if_false] at g2
      rw [hn] at g2
      clear BAD GOOD HNQ k2
      have HHN := Lib.hid hn
      by_cases e0 : s1.e = 0
      · have heb : (s1.e != 0) = false := by rw [bne_eq_false_iff_eq]; exact e0
        have hz := g2 e0
        clear g1 g2 e0
        obtain ⟨q0, q1, q2, q3⟩ := cells4 HY4.out
        obtain ⟨c0, c1, c2, c3, c4, cf, hrs⟩ := HR4.out.cells
        by_cases z1 : n < lo
        · rw [if_pos (.inl z1)] at hz
          subst hz
          go_wp2_with fail
          first
            | refine (fail_ps _ rb lv nv ⟨s1.k + 1, s1.e, s1.off⟩ 9 off (HR4.out.setK (k := s1.k + 1) (v := (s1.k : Int) + 1) (by simp))).mono ?_
            | refine (fail_ps _ rb lv nv ⟨s1.k + 1, s1.e, s1.off⟩ 9 off ((HR3.out.setK (k := s1.k + 1) (v := (s1.k : Int) + 1) (by simp)).alloc _)).mono ?_
          rintro e w5 ⟨⟨v5, he⟩, hi5, hg5⟩
          subst he
          have HR5 := Lib.hid hi5
          have HG5 := Lib.hid (show w.grownBy w5 (some rb) by first | exact gb_tr (gb_cell HG4.out) hg5 | exact gb_tr (gb_al (gb_cell HG3.out) _) hg5)
          clear hi5 hg5
          go_wp2_with fail
          go_ret
          exact ⟨rfl, HR5.out, HG5.out⟩
        · by_cases z2 : hi < n
          · rw [if_pos (.inr z2)] at hz
            subst hz
            go_wp2_with fail
            first
              | refine (fail_ps _ rb lv nv ⟨s1.k + 1, s1.e, s1.off⟩ 9 off (HR4.out.setK (k := s1.k + 1) (v := (s1.k : Int) + 1) (by simp))).mono ?_
              | refine (fail_ps _ rb lv nv ⟨s1.k + 1, s1.e, s1.off⟩ 9 off ((HR3.out.setK (k := s1.k + 1) (v := (s1.k : Int) + 1) (by simp)).alloc _)).mono ?_
            rintro e w5 ⟨⟨v5, he⟩, hi5, hg5⟩
            subst he
            have HR5 := Lib.hid hi5
            have HG5 := Lib.hid (show w.grownBy w5 (some rb) by first | exact gb_tr (gb_cell HG4.out) hg5 | exact gb_tr (gb_al (gb_cell HG3.out) _) hg5)
            clear hi5 hg5
            go_wp2_with fail
            go_ret
            exact ⟨rfl, HR5.out, HG5.out⟩
          · rw [if_neg (by omega)] at hz
            subst hz
            go_wp2_with fail
            go_ret
            first | exact ⟨rfl, HR4.out.setK (k := s1.k + 1) (v := (s1.k : Int) + 1) (by simp), gb_cell HG4.out⟩ | exact ⟨rfl, (HR3.out.setK (k := s1.k + 1) (v := (s1.k : Int) + 1) (by simp)).alloc _, gb_al (gb_cell HG3.out) _⟩
      · have heb : (s1.e != 0) = true := by rw [bne_iff_ne]; exact e0
        have hz := g1 e0
        subst hz
        clear g1 g2 e0
        obtain ⟨q0, q1, q2, q3⟩ := cells4 HY4.out
        obtain ⟨c0, c1, c2, c3, c4, cf, hrs⟩ := HR4.out.cells
        go_wp2_with fail
        go_ret
        first | exact ⟨rfl, HR4.out, HG4.out⟩ | exact ⟨rfl, HR3.out.alloc _, gb_al HG3.out _⟩
  · have hkb : (y.kind != 2) = true := by rw [bne_iff_ne]; exact k2
    have hz : R = (0, failQ s1 5 y.off) := BAD.out (.inl k2)
    clear BAD GOOD HNQ k2
    have hfe : (failQ s1 5 y.off).e ≠ 0 := failQ_e (by decide)
    obtain ⟨s2, hs2⟩ : ∃ s2, failQ s1 5 y.off = s2 := ⟨_, rfl⟩
    rw [hs2] at hz hfe
    have hfb : (s2.e != 0) = true := by rw [bne_iff_ne]; exact hfe
    subst hz
    clear hfe
    obtain ⟨q0, q1, q2, q3⟩ := cells4 HY4.out
    go_wp2_with fail
    have HS2 := Lib.hid hs2
    refine (fail_ps W4 rb lv nv s1 5 y.off HR4.out).mono ?_
    rintro e w5 ⟨⟨v5, he⟩, hi5, hg5⟩
    rw [HS2.out] at hi5
    subst he
    have HR5 := Lib.hid hi5
    have HG5 := Lib.hid (gb_tr HG4.out hg5)
    obtain ⟨c0, c1, c2, c3, c4, cf, hrs⟩ := hi5.cells
    clear hi5 hg5
    go_wp2_with fail
    go_ret
    exact ⟨rfl, HR5.out, HG5.out⟩

end Go.Proofs.YtbmcfodhjibooaaDoor
