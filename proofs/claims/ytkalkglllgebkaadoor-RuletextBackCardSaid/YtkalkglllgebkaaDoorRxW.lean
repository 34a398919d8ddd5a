/-
  The contract of ruletext.ParseExpr.
-/
import Derived.Test.YtkalkglllgebkaaDoorRxV
import Derived.Test.YtkalkglllgebkaaDoorRxP
namespace Saw
theorem scan_okx {s : List UInt8} {xs : List Lx} {a : Int} (h : scanP s = (xs, 0, a)) : a = 0 ∧ 0 < xs.length ∧ LxEnds xs ∧ xs.length ≤ 8001 ∧ (∀ x ∈ xs, 0 ≤ x.num ∧ x.num ≤ 1099511627776) ∧ ∀ x ∈ xs, x.text.length ≤ 8000 := by
  have h0 := scanP_good s (by rw [h])
  rw [h] at h0
  obtain ⟨_, ha, _, hlen, htx⟩ := h0
  simp only at ha hlen htx
  subst ha
  obtain ⟨h1, h2, h3⟩ := scan_nums h
  exact ⟨rfl, h3, h1, hlen, h2, htx⟩
end Saw
namespace Go.Proofs.YtkalkglllgebkaaDoor
open Go.RowKit Saw

theorem rx_field0 (k n q : Int) (t : ByteArray) (W : World) : (Instr.field 49 (.agg #[.int .i64 k, .string t, .int .i64 n, .int .i64 q]) 0).run Tryd.prog W = .ok (.int .i64 k) W := by kernel_rfl
theorem xs_ok {s : List UInt8} {xs : List Lx} {a : Int} (h : scanP s = (xs, 0, a)) : XsOk xs := by
  obtain ⟨_, _, h1, h2, h3, h4⟩ := scan_okx h
  exact ⟨h1, by omega, h3, fun x hx => by have := h4 x hx; omega⟩

/-- The three blocks of the results: of a value of type t, of an error and of an offset. -/
def R3 (w W : World) (t : TypeId) (cs : Array Value) (a b : Int) : Prop :=
  W.heap[w.heap.size]? = some (.cells cs t (0, 0)) ∧ W.heap[w.heap.size + 1]? = some (.cells #[.int .i64 a] 28 (0, 0)) ∧ W.heap[w.heap.size + 2]? = some (.cells #[.int .i64 b] 3 (0, 0)) ∧ Below w.heap.size w W ∧ w.heap.size + 2 < W.heap.size
section
variable {w W W' : World} {t : TypeId} {cs : Array Value} {a b : Int}
theorem R3.first_ (w : World) (t : TypeId) (z : Array Value) : R3 w (((w.alloc (.cells z t)).alloc (.cells #[.int .i64 0] 28)).alloc (.cells #[.int .i64 0] 3)) t z 0 0 := by
  have h2 := heap_alloc_last (w.alloc (.cells z t)) (.cells #[.int .i64 0] 28)
  have h3 := heap_alloc_last ((w.alloc (.cells z t)).alloc (.cells #[.int .i64 0] 28)) (.cells #[.int .i64 0] 3)
  rw [World.size_alloc] at h2
  rw [World.size_alloc, World.size_alloc] at h3
  exact ⟨hpA (hpA (heap_alloc_last w _) _) _, hpA h2 _, h3, bel_alloc (bel_alloc (bel_alloc (Below.refl _ _))), by rw [World.size_alloc, World.size_alloc, World.size_alloc]; omega⟩
theorem R3.gb (h : R3 w W t cs a b) {row : Option Nat} (hg : W.grownBy W' row) (hr : ∀ g, row = some g → w.heap.size + 2 < g) : R3 w W' t cs a b := by
  obtain ⟨h1, h2, h3, h4, h5⟩ := h
  have hs := hg.size
  refine ⟨(hg.block _ (by omega) (fun e => by have := hr _ e.symm; omega)).trans h1, (hg.block _ (by omega) (fun e => by have := hr _ e.symm; omega)).trans h2, (hg.block _ (by omega) (fun e => by have := hr _ e.symm; omega)).trans h3, h4.grown hg h4.size (fun k hk => by have := hr k hk; omega), by omega⟩
theorem R3.below (h : R3 w W t cs a b) (hb : Below W.heap.size W W') : R3 w W' t cs a b := h.gb (gb_belowS (row := none) gb_refl hb) nofun
theorem R3.alloc (h : R3 w W t cs a b) (o : Obj) : R3 w (W.alloc o) t cs a b := h.below ((Below.refl _ _).alloc (Nat.le_refl _) o)
theorem R3.drew (h : R3 w W t cs a b) : R3 w W.drew t cs a b := ⟨h.1, h.2.1, h.2.2.1, h.2.2.2.1.drew, h.2.2.2.2⟩
theorem R3.cells (h : R3 w W t cs a b) : W.cell? ⟨w.heap.size + 1, 0, none⟩ = some (.int .i64 a) ∧ W.cell? ⟨w.heap.size + 2, 0, none⟩ = some (.int .i64 b) ∧ W.frozen? ⟨w.heap.size + 1, 0, none⟩ = false ∧ W.frozen? ⟨w.heap.size + 2, 0, none⟩ = false := by
  obtain ⟨h1, h2, h3, h4, h5⟩ := h
  exact ⟨cell_of_box h2 rfl, cell_of_box h3 rfl, by simp [World.frozen?, h2], by simp [World.frozen?, h3]⟩
theorem R3.set1 (h : R3 w W t cs a b) (n : Int) : R3 w (W.setCell ⟨w.heap.size + 1, 0, none⟩ (.int .i64 n)) t cs n b := by
  obtain ⟨h1, h2, h3, h4, h5⟩ := h
  exact ⟨hpS h1 (by omega) _, set1_heap h2 _, hpS h3 (by omega) _, h4.setCell (p := ⟨w.heap.size + 1, 0, none⟩) (by show w.heap.size ≤ w.heap.size + 1; omega) _, by simpa [World.setCell] using h5⟩
theorem R3.set2 (h : R3 w W t cs a b) (n : Int) : R3 w (W.setCell ⟨w.heap.size + 2, 0, none⟩ (.int .i64 n)) t cs a n := by
  obtain ⟨h1, h2, h3, h4, h5⟩ := h
  exact ⟨hpS h1 (by omega) _, hpS h2 (by omega) _, set1_heap h3 _, h4.setCell (p := ⟨w.heap.size + 2, 0, none⟩) (by show w.heap.size ≤ w.heap.size + 2; omega) _, by simpa [World.setCell] using h5⟩
theorem R3.free (h : R3 w W t cs a b) (j : Nat) : W.frozen? ⟨w.heap.size, j, none⟩ = false := by
  have h1 := h.1
  simp [World.frozen?, h1]
theorem R3.row (h : R3 w W t cs a b) (c' : Array Value) : R3 w (W.setRow w.heap.size c') t c' a b := by
  obtain ⟨h1, h2, h3, h4, h5⟩ := h
  exact ⟨setRow_heap _ _ _ _ _ _ h1, (setRow_other _ _ _ _ (by omega)).trans h2, (setRow_other _ _ _ _ (by omega)).trans h3, h4.setRow (Nat.le_refl _) _, by simpa using h5⟩
end

/-- The three results. -/
theorem r3_ex {fn : Func} (h : fn.results = #[.cell 2 24, .cell 3 28, .cell 4 3]) (tmps : Array Value) {w W : World} {x : Ex} {sv : Value} {a b : Int} (hR : R3 w W 24 (exArr x sv) a b)
    (hp : tmps.getD 2 undef = .pointer (some ⟨w.heap.size, 0, none⟩)) (hq : tmps.getD 3 undef = .pointer (some ⟨w.heap.size + 1, 0, none⟩)) (hr : tmps.getD 4 undef = .pointer (some ⟨w.heap.size + 2, 0, none⟩)) :
    (results fn tmps).run Tryd.prog W = .ok (.tuple #[.agg (exArr x sv), .int .i64 a, .int .i64 b]) W := by
  obtain ⟨c1, c2, _, _⟩ := hR.cells
  have hp' : tmps[2]?.getD undef = .pointer (some ⟨w.heap.size, 0, none⟩) := by simpa using hp
  have hq' : tmps[3]?.getD undef = .pointer (some ⟨w.heap.size + 1, 0, none⟩) := by simpa using hq
  have hr' : tmps[4]?.getD undef = .pointer (some ⟨w.heap.size + 2, 0, none⟩) := by simpa using hr
  obtain ⟨e0, e1, e2, e3⟩ := rangeAt4 (show W.rangeAt w.heap.size 0 (exCells x sv) from rangeAt_block hR.1)
  rw [Nat.zero_add] at e1 e2 e3
  simp [results, h, hp', hq', hr', asAddr, go_sem, c1, c2, e0, e1, e2, e3, exArr]
theorem OwnsLx.set {W : World} {base g j : Nat} {v u : Value} {l : List Lx} (h : OwnsLx W base v l) (hg : g < base) : OwnsLx (W.setCell ⟨g, j, none⟩ u) base v l := by
  refine ⟨h.1, ?_⟩
  rcases h.2 with hn | ⟨g', cap, cur, rfl, hbg, hgg, rest⟩
  · exact .inl hn
  · exact .inr ⟨g', cap, cur, rfl, hbg, (Below.heap_setCell _ _ _ _ (fun e => by have e' : g' = g := e; omega)).trans hgg, rest⟩
/-- The slice's block is none ahead of base. -/
def VGe (base : Nat) (v : Value) : Prop := ∀ b off sp n c, v = .slice (some ⟨b, off, sp⟩) n c → base ≤ b
theorem OwnsLx.ge {W : World} {base : Nat} {v : Value} {l : List Lx} (h : OwnsLx W base v l) : VGe base v := by
  intro b off sp n c e
  rcases h.2 with ⟨hn, _⟩ | ⟨g', cap, cur, hn, hbg, _⟩
  · rw [hn] at e; cases e
  · rw [hn] at e; injection e with e1 _ _; injection e1 with e1; injection e1 with e1 _ _; omega
theorem RdXs.row {W : World} {rb g base : Nat} {v : Value} {xs : List Lx} (h : RdXs W rb v xs) (hv : VGe base v) (hg : g < base) (cs : Array Value) : RdXs (W.setRow g cs) rb v xs := by
  obtain ⟨h1, h2, A, c, rfl, hc, h3⟩ := h
  refine ⟨h1, h2, A, c, rfl, hc, fun hn => ?_⟩
  obtain ⟨b, off, rfl, hb, hcell⟩ := h3 hn
  have hge := hv b off none _ _ rfl
  exact ⟨b, off, rfl, hb, fun j u hu => (World.cell?_of_block (setRow_other _ _ _ _ (by show b ≠ g; omega))).trans (hcell j u hu)⟩
theorem size_setCell (W : World) (p : Addr) (u : Value) : (W.setCell p u).heap.size = W.heap.size := by simp [World.setCell]

/-- What ParseExpr leaves. -/
def ParseXPost (r : Ex × Int × Int) (w : World) (e : Ending) (w' : World) : Prop :=
  ∃ A c, e = .returned (.tuple #[.agg #[.int .i64 r.1.op, .int .i64 r.1.n, .string (str r.1.name), .slice A r.1.kids.toList.length c], .int .i64 r.2.1, .int .i64 r.2.2]) ∧ RdFo w' (Iv w.heap.size w'.heap.size) (.slice A r.1.kids.toList.length c) r.1.kids ∧ Below w.heap.size w w'

theorem R3.of_catch {w W w' : World} {t : TypeId} {cs c' : Array Value} {a b er off : Int} (hR : R3 w W t cs a b) (h2 : w'.heap[w.heap.size]? = some (.cells c' t (0, 0))) (h3 : w'.heap[w.heap.size + 1]? = some (.cells #[.int .i64 er] 28 (0, 0))) (h4 : w'.heap[w.heap.size + 2]? = some (.cells #[.int .i64 off] 3 (0, 0))) (hb : Below w.heap.size W w') :
    R3 w w' t c' er off := ⟨h2, h3, h4, hR.2.2.2.1.trans hb, (Array.getElem?_eq_some_iff.1 h4).1⟩
/-- Behind the deferred closure: a fault has become the results. -/
theorem doorX_bad {w W : World} {x : Ex} {sv : Value} {a b er off : Int} {tmps : Array Value} (hR : R3 w W 24 (exArr x sv) a b)
    (hp : tmps.getD 2 undef = .pointer (some ⟨w.heap.size, 0, none⟩)) (hq : tmps.getD 3 undef = .pointer (some ⟨w.heap.size + 1, 0, none⟩)) (hr : tmps.getD 4 undef = .pointer (some ⟨w.heap.size + 2, 0, none⟩)) :
    Leaves Tryd.prog Tryd.f15 tmps (ParseXPost (Ex.zero, er, off) w) [{ target := .fn (.func 35) #[.pointer (some ⟨w.heap.size, 0, none⟩), .pointer (some ⟨w.heap.size + 1, 0, none⟩), .pointer (some ⟨w.heap.size + 2, 0, none⟩)], args := #[] }]
      (.panicking [{ v := .iface 62 (.agg #[.int .i64 er, .int .i64 off]), recovered := false }]) W := by
  refine leaves_cons (f := 35) (args := #[.pointer (some ⟨w.heap.size, 0, none⟩), .pointer (some ⟨w.heap.size + 1, 0, none⟩), .pointer (some ⟨w.heap.size + 2, 0, none⟩)]) (by simp) (by simp [go_sem]) ?_
  refine (catchX_panicking w.heap.size (w.heap.size + 1) (w.heap.size + 2) x sv a b er off [] W hR.1 hR.2.1 hR.2.2.1 (by omega) (by omega)).mono ?_
  rintro e u' w' ⟨rfl, rfl, h2, h3, h4, hb⟩
  have hR' := hR.of_catch h2 h3 h4 hb
  exact ⟨_, r3_ex Tryd.results15 tmps hR' hp hq hr, none, 0, rfl, RdFo.none_ _ _, hR'.2.2.2.1⟩
/-- Behind the deferred closure: the results stand. -/
theorem doorX_ok {w W : World} {x : Ex} {A : Option Addr} {c : Nat} {a b : Int} {tmps : Array Value} (hR : R3 w W 24 (exArr x (.slice A x.kids.toList.length c)) a b) (hx : RdFo W (Iv w.heap.size W.heap.size) (.slice A x.kids.toList.length c) x.kids)
    (hp : tmps.getD 2 undef = .pointer (some ⟨w.heap.size, 0, none⟩)) (hq : tmps.getD 3 undef = .pointer (some ⟨w.heap.size + 1, 0, none⟩)) (hr : tmps.getD 4 undef = .pointer (some ⟨w.heap.size + 2, 0, none⟩)) :
    Leaves Tryd.prog Tryd.f15 tmps (ParseXPost (x, a, b) w) [{ target := .fn (.func 35) #[.pointer (some ⟨w.heap.size, 0, none⟩), .pointer (some ⟨w.heap.size + 1, 0, none⟩), .pointer (some ⟨w.heap.size + 2, 0, none⟩)], args := #[] }] .returning W := by
  refine leaves_cons (f := 35) (args := #[.pointer (some ⟨w.heap.size, 0, none⟩), .pointer (some ⟨w.heap.size + 1, 0, none⟩), .pointer (some ⟨w.heap.size + 2, 0, none⟩)]) (by simp) (by simp [go_sem]) ?_
  refine (catchX_idle w.heap.size (w.heap.size + 1) (w.heap.size + 2) W).mono ?_
  rintro e u' w' ⟨rfl, rfl, hb⟩
  have hR' := hR.below hb
  exact ⟨_, r3_ex Tryd.results15 tmps hR' hp hq hr, A, c, rfl, hx.next hb, hR'.2.2.2.1⟩

set_option maxRecDepth 100000 in
set_option maxHeartbeats 2000000 in
theorem parseX_any (s : ByteArray) (w : World) (hs : s.size ≤ 9223372036854775807) : Calls Tryd.prog 15 #[.string s] w (ParseXPost (parseX (bts s)) w) := by
  obtain ⟨r, hr⟩ : ∃ r, parseX (bts s) = r := ⟨_, rfl⟩
  rw [hr]
  have HR := Lib.hid hr
  have lf3 := rx_field3
  clear hr
  have hS := R3.first_ w 24 #[.int .i64 0, .int .i64 0, .string ⟨#[]⟩, .slice none 0 0]
  go_enter_defers Tryd.func15, Tryd.ntmps15
  go_wp2_with fail
  refine (scan_any s _ hs).mono ?_
  rintro e w1 ⟨v, he, ho, hb⟩
  obtain ⟨xs, er, at_, hsc⟩ : ∃ xs er at_, scanP (bts s) = (xs, er, at_) := ⟨_, _, _, rfl⟩
  rw [hsc] at he ho
  subst he
  have HS1 := Lib.hid (hS.below hb)
  obtain ⟨c1, c2, f1, f2⟩ := HS1.out.cells
  clear hS hb
  have HO := Lib.hid ho
  have hmf : ∀ (fn : Fn) (first cap : Array Value) (w : World), (Instr.makeFunc fn first cap).run Tryd.prog w = .ok (.func fn first cap) w := fun _ _ _ _ => rfl
  by_cases her : er = 0
  · subst her
    obtain ⟨rfl, hpos, _, hlen, _, _⟩ := scan_okx hsc
    have HX := Lib.hid (xs_ok hsc)
    have hre : r = match wholeE xs 0 with | .bad er off => (Ex.zero, er, off) | .ok e k => if (lxAt xs k).kind = 0 then (e, 0, 0) else (Ex.zero, 5, (lxAt xs k).off) := by
      rw [← HR.out, parseX, hsc]
      simp only [ne_eq, not_true_eq_false, if_false]
      rfl
    have HRE := Lib.hid hre
    obtain ⟨_, _, A0, cc, rfl, _, _⟩ := id (Rd.of_own ho)
    have hVG := ho.ge
    have HVG := Lib.hid (show VGe (w.heap.size + 3) (.slice A0 xs.length cc) from fun b off sp n c e => by have := hVG b off sp n c e; rw [World.size_alloc, World.size_alloc, World.size_alloc] at this; omega)
    clear hVG
    have hO := (ho.set (j := 0) (g := w.heap.size + 1) (u := .int .i64 0) (by rw [World.size_alloc, World.size_alloc, World.size_alloc]; omega)).set (j := 0) (g := w.heap.size + 2) (u := .int .i64 0) (by rw [World.size_alloc, World.size_alloc, World.size_alloc]; omega)
    have hL := (Rd.of_own hO).below ((Below.refl _ _).alloc (Nat.le_refl _) (.cells #[.slice A0 xs.length cc, .int .i64 0] 66))
    have hP := heap_alloc_last ((w1.setCell ⟨w.heap.size + 1, 0, none⟩ (.int .i64 0)).setCell ⟨w.heap.size + 2, 0, none⟩ (.int .i64 0)) (.cells #[.slice A0 xs.length cc, .int .i64 0] 66)
    rw [size_setCell, size_setCell] at hL hP
    have hS2 := ((HS1.out.set1 0).set2 0).alloc (.cells #[.slice A0 xs.length cc, .int .i64 0] 66)
    have hlt := HS1.out.2.2.2.2
    clear ho hO hsc hre
    go_upto_region 6 with fail
    obtain ⟨rb, hrb⟩ : ∃ rb, w1.heap.size = rb := ⟨_, rfl⟩
    obtain ⟨W2, hW2⟩ : ∃ W, ((w1.setCell ⟨w.heap.size + 1, 0, none⟩ (.int .i64 0)).setCell ⟨w.heap.size + 1 + 1, 0, none⟩ (.int .i64 0)).alloc (.cells #[.slice A0 xs.length cc, .int .i64 0] 66) = W := ⟨_, rfl⟩
    rw [show ((w1.setCell ⟨w.heap.size + 1, 0, none⟩ (.int .i64 0)).setCell ⟨w.heap.size + 2, 0, none⟩ (.int .i64 0)).alloc (.cells #[.slice A0 xs.length cc, .int .i64 0] 66) = W2 from hW2] at hL hP hS2
    rw [hrb] at hL hP hlt
    rw [hrb, hW2]
    have HL := Lib.hid (show RdXs W2 rb (.slice A0 xs.length cc) xs from hL)
    have HP := Lib.hid (show IsRx W2 rb (.slice A0 xs.length cc) 0 from hP)
    have HS2 := Lib.hid hS2
    clear hL hP hS2 HS1 HO c1 c2 f1 f2 hW2 hrb
    have hrb2 : w.heap.size + 2 < rb := hlt
    go_wp2_with fail
    refine (whole_rx HX.out 0 hpos _ rb _ HP.out HL.out).mono ?_
    rintro e w3 ⟨hg, hp⟩
    have hrow : ∀ g, some rb = some g → w.heap.size + 2 < g := fun g e => by injection e with e; omega
    have hS3 := HS2.out.gb hg hrow
    rcases whole_cases HX.out.1 hpos with ⟨x, k', _, _, hw, _, hk'⟩ | ⟨x, k', _, _, hw, _, _⟩ | ⟨er, off, _, hw⟩
    · rw [hw] at hp HRE
      obtain ⟨A1, c1, he, hrd, hr3⟩ := hp
      subst he
      have hs3 := hg.size
      have hb2 := HP.out.lt
      have hL3 := HL.out.gb hg hb2
      have HS3 := Lib.hid (hS3.row (exArr x (.slice A1 x.kids.toList.length c1)))
      have hRD3 := (hrd.setRow (g := w.heap.size) (fun b hb => by have := hb.1; omega) (exArr x (.slice A1 x.kids.toList.length c1))).more (S' := Iv rb w3.heap.size) (fun b hb => ⟨by have := hb.1; omega, hb.2⟩)
      have hP3 := hr3.row (g := w.heap.size) (by omega) (exArr x (.slice A1 x.kids.toList.length c1))
      have hL4 := hL3.row HVG.out (g := w.heap.size) (by omega) (exArr x (.slice A1 x.kids.toList.length c1))
      have HRES := Lib.hid hS3.1
      have HCS : Hid ((#[.int .i64 0, .int .i64 0, .string ⟨#[]⟩, .slice none 0 0] : Array Value).size = 4) := Lib.hid rfl
      have HRF := Lib.hid (show r = if (lxAt xs k').kind = 0 then (x, 0, 0) else (Ex.zero, 5, (lxAt xs k').off) from HRE.out)
      clear HRE hw
      have hxm := HX.out.2.1
      have HL4 := Lib.hid hL4
      have HP3 := Lib.hid hP3
      have HRD := Lib.hid hRD3
      clear hL3 hL4 hP3 hRD3 hrd hr3 hS3 hg HS2 HL HP
      go_upto_region 7 with (first
        | ((with_reducible refine ex_put w.heap.size x (.slice A1 x.kids.toList.length c1) rfl ?hx ?hy HRES.out HCS ?_); (case hx => rfl); (case hy => rfl)))
      obtain ⟨W4, hW4⟩ : ∃ W, w3.setRow w.heap.size (exArr x (.slice A1 x.kids.toList.length c1)) = W := ⟨_, rfl⟩
      rw [show w3.setRow w.heap.size #[.int .i64 x.op, .int .i64 x.n, .string (str x.name), .slice A1 x.kids.toList.length c1] = W4 from hW4]
      have hz4 : w3.heap.size = W4.heap.size := by rw [← hW4]; simp
      rw [hW4] at HL4 HP3 HRD HS3
      rw [hz4] at HRD
      clear hW4 hz4 HRES HCS hs3
      go_wp2_with fail
      refine (next_rx _ rb _ k' xs HP3.out HL4.out hk' hxm).mono ?_
      rintro e w5 ⟨he, hb⟩
      have hs5 := hb.size
      have HS5 := Lib.hid (HS3.out.below hb)
      have HP5 := Lib.hid (HP3.out.below hb HP3.out.lt)
      have HL5 := Lib.hid (HL4.out.gb (gb_belowS gb_refl hb) HP3.out.lt)
      have HRD5 := Lib.hid (HRD.out.next hb)
      obtain ⟨y, hy⟩ : ∃ y, lxAt xs k' = y := ⟨_, rfl⟩
      have HF := Lib.hid (fail_rx w5 rb _ k' xs 5 HP5.out HL5.out hk' hxm)
      rw [hy] at he HRF HF
      have lf0 := rx_field0
      subst he
      clear hb HS3 HP3 HL4 HRD hy hs5
      by_cases hk0 : y.kind = 0
      · have hkb : (y.kind != 0) = false := by rw [bne_eq_false_iff_eq]; exact hk0
        have hre := HRF.out
        rw [if_pos hk0] at hre
        subst hre
        obtain ⟨e0, e1, e2, e3⟩ := rangeAt4 (show w5.rangeAt w.heap.size 0 (exCells x (.slice A1 x.kids.toList.length c1)) from rangeAt_block HS5.out.1)
        have HG5 := Lib.hid (show w5.rangeAt w.heap.size 0 (exCells x (.slice A1 x.kids.toList.length c1)) from rangeAt_block HS5.out.1)
        have HRES := Lib.hid HS5.out.1
        have HCS : Hid ((exArr x (.slice A1 x.kids.toList.length c1)).size = 4) := Lib.hid rfl
        have HS6 := Lib.hid (HS5.out.row (exArr x (.slice A1 x.kids.toList.length c1)))
        obtain ⟨c1', c2', f1', f2'⟩ := (show R3 w (w5.setRow w.heap.size #[.int .i64 x.op, .int .i64 x.n, .string (str x.name), .slice A1 x.kids.toList.length c1]) 24 (exArr x (.slice A1 x.kids.toList.length c1)) 0 0 from HS6.out).cells
        clear hk0
        go_wp2_with (first
          | ((with_reducible refine ex_load w.heap.size 0 x (.slice A1 x.kids.toList.length c1) ?hx HG5.out ?_); (case hx => rfl))
          | ((with_reducible refine ex_put w.heap.size x (.slice A1 x.kids.toList.length c1) rfl ?hx ?hy HRES.out HCS ?_); (case hx => rfl); (case hy => rfl)))
        have hfin := (((HRD5.out.setRow (g := w.heap.size) (fun b hb => by have := hb.1; omega) (exArr x (.slice A1 x.kids.toList.length c1))).setCell (g := w.heap.size + 1) (i := 0) (fun b hb => by have := hb.1; omega) (.int .i64 0)).setCell (g := w.heap.size + 2) (i := 0) (fun b hb => by have := hb.1; omega) (.int .i64 0)).more (S' := Iv w.heap.size w5.heap.size) (fun b hb => ⟨by have := hb.1; omega, hb.2⟩)
        have hsz : (((w5.setRow w.heap.size (exArr x (.slice A1 x.kids.toList.length c1))).setCell ⟨w.heap.size + 1, 0, none⟩ (.int .i64 0)).setCell ⟨w.heap.size + 2, 0, none⟩ (.int .i64 0)).heap.size = w5.heap.size := by rw [size_setCell, size_setCell]; simp
        rw [← hsz] at hfin
        exact doorX_ok ((HS6.out.set1 0).set2 0) hfin rfl rfl rfl
      · have hkb : (y.kind != 0) = true := by rw [bne_iff_ne]; exact hk0
        have hre := HRF.out
        rw [if_neg hk0] at hre
        subst hre
        clear hk0
        go_wp2_with fail
        refine HF.out.mono ?_
        rintro e w6 ⟨he, hb⟩
        subst he
        exact doorX_bad (HS5.out.below hb) rfl rfl rfl
    · rw [hw] at hp HRE
      have hre : r = (Ex.zero, 28, (lxAt xs 0).off) := HRE.out
      have he : e = Thrown 28 (lxAt xs 0).off := hp
      subst hre
      subst he
      exact doorX_bad (x := Ex.zero) (sv := .slice none 0 0) hS3 rfl rfl rfl
    · rw [hw] at hp HRE
      have hre : r = (Ex.zero, er, off) := HRE.out
      have he : e = Thrown er off := hp
      subst hre
      subst he
      exact doorX_bad (x := Ex.zero) (sv := .slice none 0 0) hS3 rfl rfl rfl
  · have hre : r = (Ex.zero, er, at_) := by
      rw [← HR.out, parseX, hsc]
      exact if_pos her
    subst hre
    have hneb : (er != 0) = true := by rw [bne_iff_ne]; exact her
    have HS2 := Lib.hid ((HS1.out.set1 er).set2 at_)
    clear ho hsc her HO
    go_upto_region 2 with fail
    obtain ⟨W2, hW2⟩ : ∃ W, ((w1.setCell ⟨w.heap.size + 1, 0, none⟩ (.int .i64 er)).setCell ⟨w.heap.size + 1 + 1, 0, none⟩ (.int .i64 at_)) = W := ⟨_, rfl⟩
    rw [show ((w1.setCell ⟨w.heap.size + 1, 0, none⟩ (.int .i64 er)).setCell ⟨w.heap.size + 2, 0, none⟩ (.int .i64 at_)) = W2 from hW2] at HS2
    rw [hW2]
    obtain ⟨c1', c2', f1', f2'⟩ := HS2.out.cells
    obtain ⟨e0, e1, e2, e3⟩ := rangeAt4 (show W2.rangeAt w.heap.size 0 (exCells Ex.zero (.slice none 0 0)) from rangeAt_block HS2.out.1)
    have z0 := HS2.out.free 0
    have z1 := HS2.out.free 1
    have z2 := HS2.out.free 2
    have z3 := HS2.out.free 3
    clear hW2 HS1 c1 c2 f1 f2
    go_wp2_with fail
    go_region
    go_wp2_with fail
    rw [set4_row HS2.out.1 rfl]
    refine ⟨_, r3_ex (x := Ex.zero) (sv := .slice none 0 0) Tryd.results15 _ ((((HS2.out.row (exArr Ex.zero (.slice none 0 0))).set1 er).set2 at_).drew) rfl rfl rfl, none, 0, rfl, RdFo.none_ _ _, (((HS2.out.row (exArr Ex.zero (.slice none 0 0))).set1 er).set2 at_).drew.2.2.2.1⟩

end Go.Proofs.YtkalkglllgebkaaDoor
