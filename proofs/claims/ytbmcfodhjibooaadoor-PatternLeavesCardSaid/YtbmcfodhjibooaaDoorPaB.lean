/-
  The contracts of pattern's parts, checkNode, of span.Len, and of the function literal of Check.
-/
import Derived.Test.YtbmcfodhjibooaaDoorPaR
import Derived.Deep.Cut
namespace Go.Proofs.YtbmcfodhjibooaaDoor
open Go.RowKit Saw

theorem setRow_same {w : World} {g : Nat} {cs : Array Value} {t : TypeId} {fr : Nat × Nat} (h : w.heap[g]? = some (.cells cs t fr)) : w.setRow g cs = w := by
  have e : (w.setRow g cs).heap = w.heap := by
    apply Array.ext_getElem?
    intro i
    by_cases hi : i = g
    · subst hi
      rw [h]
      exact setRow_heap _ _ _ _ _ _ h
    · exact setRow_other _ _ _ _ hi
  have e2 : w.setRow g cs = { w with heap := (w.setRow g cs).heap } := rfl
  rw [e2, e]
theorem setCell_same {w : World} {g i : Nat} {cs : Array Value} {t : TypeId} {v : Value} (h : w.heap[g]? = some (.cells cs t (0, 0))) (hv : cs[i]? = some v) : w.setCell ⟨g, i, none⟩ v = w := by
  rw [setCell_eq_setRow _ _ _ _ _ _ _ h]
  obtain ⟨h1, h2⟩ := Array.getElem?_eq_some_iff.1 hv
  have e : cs.setIfInBounds i v = cs := by
    apply Array.ext (by simp)
    intro j h3 h4
    rw [Array.getElem_setIfInBounds]
    split
    · rename_i e; subst e; exact h2.symm
    · rfl
  rw [e]
  exact setRow_same h
theorem frz {w : World} {g : Nat} {cs : Array Value} {t : TypeId} (h : w.heap[g]? = some (.cells cs t (0, 0))) (i : Nat) : w.frozen? ⟨g, i, none⟩ = false := by
  simp [World.frozen?, h]
theorem bel_drew {B : Nat} {w w' : World} (h : Below B w w') : Below B w w'.drew := h.drew
theorem cells4 {w : World} {N : Nat} {a b c d : Value} {t : TypeId} (h : w.heap[N]? = some (.cells #[a, b, c, d] t (0, 0))) : w.cell? ⟨N, 0, none⟩ = some a ∧ w.cell? ⟨N, 1, none⟩ = some b ∧ w.cell? ⟨N, 2, none⟩ = some c ∧ w.cell? ⟨N, 3, none⟩ = some d := ⟨cell_of_box h rfl, cell_of_box h rfl, cell_of_box h rfl, cell_of_box h rfl⟩
theorem same4 {w : World} {N : Nat} {a b c d : Value} {t : TypeId} (h : w.heap[N]? = some (.cells #[a, b, c, d] t (0, 0))) : w.setCell ⟨N, 0, none⟩ a = w ∧ w.setCell ⟨N, 1, none⟩ b = w ∧ w.setCell ⟨N, 2, none⟩ c = w ∧ w.setCell ⟨N, 3, none⟩ d = w :=
  ⟨setCell_same h rfl, setCell_same h rfl, setCell_same h rfl, setCell_same h rfl⟩
theorem cells2 {w : World} {N : Nat} {a b : Value} {t : TypeId} (h : w.heap[N]? = some (.cells #[a, b] t (0, 0))) : w.cell? ⟨N, 0, none⟩ = some a ∧ w.cell? ⟨N, 1, none⟩ = some b := ⟨cell_of_box h rfl, cell_of_box h rfl⟩
section
variable {ops : Array Oper} {rest : List Oper} {d : Option Tmp} {ty : TypeId} {pos : String} {af : Array Edge} {a : Act} {w : World} {Q : Exit → Act → World → Prop} {p q : Operand}
theorem rc_load (b o : Nat) (x : Rc) (hx : a.eval p = .pointer (some ⟨b, o, none⟩)) (hc : w.rangeAt b o (rcCells x))
    (h : wpList Tryd.prog ops Q rest (a.put d (rcV x)) w) : wpList Tryd.prog ops Q (⟨d, .load 25 p, ty, pos, af, none⟩ :: rest) a w :=
  wpList_loadAs b o (rcCells x) hx hc Tryd.underlying25 rfl rc_info h
theorem rc_put (g : Nat) (x : Rc) (hx : a.eval p = .pointer (some ⟨g, 0, none⟩)) (hy : a.eval q = rcV x) {old : Array Value} {t' : TypeId} (hg : w.heap[g]? = some (.cells old t' (0, 0))) (hs : Hid (old.size = 4))
    (h : wpList Tryd.prog ops Q rest (a.put d undef) (w.setRow g (rcCells x).toArray)) : wpList Tryd.prog ops Q (⟨d, .store 25 p q, ty, pos, af, none⟩ :: rest) a w :=
  wpList_storeOld g _ hx hy hg rc_info (hs.out.trans rfl) rfl h
theorem rc_putSame (g : Nat) (x : Rc) (hx : a.eval p = .pointer (some ⟨g, 0, none⟩)) (hy : a.eval q = rcV x) {t' : TypeId} (hg : w.heap[g]? = some (.cells (rcCells x).toArray t' (0, 0)))
    (h : wpList Tryd.prog ops Q rest (a.put d undef) w) : wpList Tryd.prog ops Q (⟨d, .store 25 p q, ty, pos, af, none⟩ :: rest) a w :=
  rc_put g x hx hy hg (Lib.hid rfl) (by rw [setRow_same hg]; exact h)
end
theorem hpSR {w : World} {g : Nat} {o : Obj} (h : w.heap[g]? = some o) {g' : Nat} (hne : g ≠ g') (cs : Array Value) : (w.setRow g' cs).heap[g]? = some o := (setRow_other _ _ _ _ hne).trans h

theorem hpSRe {w W : World} {g g' : Nat} {o : Obj} {cs : Array Value} (hW : w.setRow g' cs = W) (h : w.heap[g]? = some o) (hne : g ≠ g') : W.heap[g]? = some o := hW ▸ hpSR h hne _

theorem parts_res {fn : Func} {p q r : Tmp} (h : fn.results = #[.cell p 25, .cell q 25, .cell r 25]) (tmps : Array Value) (W : World) (g1 g2 g3 : Nat) (x y z : Rc)
    (hp : tmps.getD p undef = .pointer (some ⟨g1, 0, none⟩)) (hq : tmps.getD q undef = .pointer (some ⟨g2, 0, none⟩)) (hr : tmps.getD r undef = .pointer (some ⟨g3, 0, none⟩))
    (h1 : W.rangeAt g1 0 (rcCells x)) (h2 : W.rangeAt g2 0 (rcCells y)) (h3 : W.rangeAt g3 0 (rcCells z)) :
    (results fn tmps).run Tryd.prog W = .ok (.tuple #[rcV x, rcV y, rcV z]) W := by
  have hp' : tmps[p]?.getD undef = .pointer (some ⟨g1, 0, none⟩) := by simpa using hp
  have hq' : tmps[q]?.getD undef = .pointer (some ⟨g2, 0, none⟩) := by simpa using hq
  have hr' : tmps[r]?.getD undef = .pointer (some ⟨g3, 0, none⟩) := by simpa using hr
  have e1 := run_loadVar_mid W g1 0 25 (rcCells x) _ h1 Tryd.underlying25 rfl rc_info
  have e2 := run_loadVar_mid W g2 0 25 (rcCells y) _ h2 Tryd.underlying25 rfl rc_info
  have e3 := run_loadVar_mid W g3 0 25 (rcCells z) _ h3 Tryd.underlying25 rfl rc_info
  simp [results, h, hp', hq', hr', asAddr, e1, e2, e3, rcV, rcCells]

/-- How memory stands in parts. -/
def PtSt (w W : World) (r : Rc) (n : Nd) (a b c : Rc) : Prop :=
  W.heap[w.heap.size]? = some (.cells #[.int .i64 r.xa, .int .i64 r.xb, .int .i64 r.ya, .int .i64 r.yb] 25 (0, 0)) ∧
  W.heap[w.heap.size + 1]? = some (.cells #[.int .i64 n.kind, .int .i64 n.pos] 64 (0, 0)) ∧
  W.heap[w.heap.size + 1 + 1]? = some (.cells (rcCells a).toArray 25 (0, 0)) ∧
  W.heap[w.heap.size + 1 + 1 + 1]? = some (.cells (rcCells b).toArray 25 (0, 0)) ∧
  W.heap[w.heap.size + 1 + 1 + 1 + 1]? = some (.cells (rcCells c).toArray 25 (0, 0)) ∧ Below w.heap.size w W ∧ w.heap.size + 1 + 1 + 1 + 1 < W.heap.size
section
variable {w W W' : World} {r a b c x : Rc} {n : Nd}
theorem PtSt.call (h : PtSt w W r n a b c) (hb : Below W.heap.size W W') : PtSt w W' r n a b c := by
  obtain ⟨h1, h2, h3, h4, h5, h6, h7⟩ := h
  exact ⟨(hb.block _ (by omega)).trans h1, (hb.block _ (by omega)).trans h2, (hb.block _ (by omega)).trans h3, (hb.block _ (by omega)).trans h4, (hb.block _ (by omega)).trans h5, h6.trans (hb.mono h6.size), Nat.lt_of_lt_of_le h7 hb.size⟩
theorem PtSt.put1 (h : PtSt w W r n a b c) (x : Rc) : PtSt w (W.setRow (w.heap.size + 1 + 1) (rcCells x).toArray) r n x b c := by
  obtain ⟨h1, h2, h3, h4, h5, h6, h7⟩ := h
  exact ⟨hpSR h1 (by omega) _, hpSR h2 (by omega) _, setRow_heap _ _ _ _ _ _ h3, hpSR h4 (by omega) _, hpSR h5 (by omega) _, Below.setRow h6 (by omega) _, by simpa [World.setRow] using h7⟩
theorem PtSt.put2 (h : PtSt w W r n a b c) (x : Rc) : PtSt w (W.setRow (w.heap.size + 1 + 1 + 1) (rcCells x).toArray) r n a x c := by
  obtain ⟨h1, h2, h3, h4, h5, h6, h7⟩ := h
  exact ⟨hpSR h1 (by omega) _, hpSR h2 (by omega) _, hpSR h3 (by omega) _, setRow_heap _ _ _ _ _ _ h4, hpSR h5 (by omega) _, Below.setRow h6 (by omega) _, by simpa [World.setRow] using h7⟩
theorem PtSt.put3 (h : PtSt w W r n a b c) (x : Rc) : PtSt w (W.setRow (w.heap.size + 1 + 1 + 1 + 1) (rcCells x).toArray) r n a b x := by
  obtain ⟨h1, h2, h3, h4, h5, h6, h7⟩ := h
  exact ⟨hpSR h1 (by omega) _, hpSR h2 (by omega) _, hpSR h3 (by omega) _, hpSR h4 (by omega) _, setRow_heap _ _ _ _ _ _ h5, Below.setRow h6 (by omega) _, by simpa [World.setRow] using h7⟩
end
def rc0 : Rc := ⟨0, 0, 0, 0⟩

set_option maxRecDepth 100000 in
set_option maxHeartbeats 2000000 in
theorem parts_any (r : Rc) (n : Nd) (kerf : Int) (w : World) : Calls Tryd.prog 49 #[rcV r, ndV n, .int .i64 kerf] w fun e w' => e = .returned (.tuple #[rcV (part1 r n), rcV (partC r n kerf), rcV (part2 r n kerf)]) ∧ Below w.heap.size w w' := by
  unfold ndV
  rw [show rcV r = .agg #[.int .i64 r.xa, .int .i64 r.xb, .int .i64 r.ya, .int .i64 r.yb] from rfl]
  obtain ⟨lo, hlo⟩ : ∃ lo, lowP r n.kind = lo := ⟨_, rfl⟩
  obtain ⟨hi, hhi⟩ : ∃ hi, highP r n.kind = hi := ⟨_, rfl⟩
  obtain ⟨q, hq⟩ : ∃ q, wrap64 (n.pos + kerf) = q := ⟨_, rfl⟩
  obtain ⟨en, hen⟩ : ∃ en, min q hi = en := ⟨_, rfl⟩
  have hep : endP r n kerf = en := by rw [endP, hhi, ← hen, ← hq, IntWalk.i64_left]
  obtain ⟨a, ha⟩ : ∃ a, withP r n.kind lo n.pos = a := ⟨_, rfl⟩
  obtain ⟨b, hb⟩ : ∃ b, withP r n.kind n.pos en = b := ⟨_, rfl⟩
  obtain ⟨c, hc⟩ : ∃ c, withP r n.kind en hi = c := ⟨_, rfl⟩
  rw [show part1 r n = a by rw [part1, hlo, ha], show partC r n kerf = b by rw [partC, hep, hb], show part2 r n kerf = c by rw [part2, hep, hhi, hc]]
  clear hep
  have HA := Lib.hid ha
  have HB := Lib.hid hb
  have HC := Lib.hid hc
  have HLO := Lib.hid hlo
  have HHI := Lib.hid hhi
  have HEN := Lib.hid hen
  clear ha hb hc hlo hhi hen
  go_enter Tryd.func49, Tryd.ntmps49
  go_wp2_with fail
  obtain ⟨W0, hW0⟩ : ∃ W0, ((((w.alloc (.cells #[.int .i64 r.xa, .int .i64 r.xb, .int .i64 r.ya, .int .i64 r.yb] 25)).alloc (.cells #[.int .i64 n.kind, .int .i64 n.pos] 64)).alloc (.cells #[.int .i64 0, .int .i64 0, .int .i64 0, .int .i64 0] 25)).alloc (.cells #[.int .i64 0, .int .i64 0, .int .i64 0, .int .i64 0] 25)).alloc (.cells #[.int .i64 0, .int .i64 0, .int .i64 0, .int .i64 0] 25) = W0 := ⟨_, rfl⟩
  have hs0 : W0.heap.size = w.heap.size + 1 + 1 + 1 + 1 + 1 := by rw [← hW0]; simp only [World.size_alloc]
  have H0 : PtSt w W0 r n rc0 rc0 rc0 := by
    refine ⟨?_, ?_, ?_, ?_, ?_, ?_, by omega⟩
    · rw [← hW0]; exact hpA (hpA (hpA (hpA (heap_alloc_last w _) _) _) _) _
    · rw [← hW0]; exact hpA (hpA (hpA (by have h := heap_alloc_last (w.alloc (.cells #[.int .i64 r.xa, .int .i64 r.xb, .int .i64 r.ya, .int .i64 r.yb] 25)) (.cells #[.int .i64 n.kind, .int .i64 n.pos] 64); rw [World.size_alloc] at h; exact h) _) _) _
    · rw [← hW0]; exact hpA (hpA (by have h := heap_alloc_last ((w.alloc (.cells #[.int .i64 r.xa, .int .i64 r.xb, .int .i64 r.ya, .int .i64 r.yb] 25)).alloc (.cells #[.int .i64 n.kind, .int .i64 n.pos] 64)) (.cells (rcCells rc0).toArray 25); simp only [World.size_alloc] at h; exact h) _) _
    · rw [← hW0]; exact hpA (by have h := heap_alloc_last (((w.alloc (.cells #[.int .i64 r.xa, .int .i64 r.xb, .int .i64 r.ya, .int .i64 r.yb] 25)).alloc (.cells #[.int .i64 n.kind, .int .i64 n.pos] 64)).alloc (.cells (rcCells rc0).toArray 25)) (.cells (rcCells rc0).toArray 25); simp only [World.size_alloc] at h; exact h) _
    · rw [← hW0]; have h := heap_alloc_last ((((w.alloc (.cells #[.int .i64 r.xa, .int .i64 r.xb, .int .i64 r.ya, .int .i64 r.yb] 25)).alloc (.cells #[.int .i64 n.kind, .int .i64 n.pos] 64)).alloc (.cells (rcCells rc0).toArray 25)).alloc (.cells (rcCells rc0).toArray 25)) (.cells (rcCells rc0).toArray 25); simp only [World.size_alloc] at h; exact h
    · rw [← hW0]; repeat (first | exact Below.refl _ _ | apply bel_alloc)
  rw [hW0]
  have HS0 := Lib.hid H0
  clear H0 hW0 hs0
  refine (along_any r n.kind _).mono ?_
  rintro e w1 ⟨he, hb1⟩
  rw [HLO.out, HHI.out] at he
  subst he
  have HS1 := Lib.hid (HS0.out.call (hb1.alloc hb1.size (.cells #[.int .i64 lo, .int .i64 hi] 23)))
  obtain ⟨W1, hW1⟩ : ∃ W1, w1.alloc (.cells #[.int .i64 lo, .int .i64 hi] 23) = W1 := ⟨_, rfl⟩
  rw [hW1] at HS1
  obtain ⟨M, hM⟩ : ∃ M, w1.heap.size = M := ⟨_, rfl⟩
  have hsp : W1.heap[M]? = some (.cells #[.int .i64 lo, .int .i64 hi] 23 (0, 0)) := by rw [← hW1, ← hM]; exact heap_alloc_last _ _
  have hMw : w.heap.size + 1 + 1 + 1 + 1 < M := by rw [← hM]; exact Nat.lt_of_lt_of_le HS0.out.2.2.2.2.2.2 hb1.size
  clear hb1
  go_upto_region 2 with fail
  clear hM hW1
  have HSP := Lib.hid hsp
  have HMW := Lib.hid hMw
  clear hsp hMw
  obtain ⟨n0, n1⟩ := cells2 HS1.out.2.1
  obtain ⟨s0, s1⟩ := cells2 HSP.out
  have hqe : (hi < q ∧ en = hi) ∨ (¬ hi < q ∧ en = q) := by have := HEN.out; omega
  clear HEN
  rcases hqe with ⟨hlt, rfl⟩ | ⟨hlt, rfl⟩
  all_goals
    go_wp2_with ((with_reducible refine rc_load w.heap.size 0 r ?hx ?hc ?_); (case hx => rfl); (case hc => exact rangeAt_block HS1.out.1))
    refine (with_any r n.kind _ _ _).mono ?_
    rintro e w2 ⟨he, hb2⟩
    rw [HA.out] at he
    subst he
    have HS2 := Lib.hid (HS1.out.call hb2)
    have HSP2 := Lib.hid ((hb2.block _ (Array.getElem?_eq_some_iff.1 HSP.out).1).trans HSP.out)
    have HP2 := Lib.hid (HS2.out.put1 a)
    obtain ⟨W2, hW2⟩ : ∃ W, w2.setRow (w.heap.size + 1 + 1) (rcCells a).toArray = W := ⟨_, rfl⟩
    rw [hW2] at HP2
    have HSP3 := Lib.hid (hpSRe hW2 HSP2.out (by have := HMW.out; omega))
    have HF := Lib.hid HS2.out.2.2.1
    clear hb2
    go_upto_region 4 with ((with_reducible refine rc_put (w.heap.size + 1 + 1) a ?hx ?hy HF.out (Lib.hid rfl) ?_); (case hx => rfl); (case hy => rfl))
    rw [hW2]
    clear HS2 HSP2 HF n0 n1 s0 s1 hW2
    obtain ⟨n0, n1⟩ := cells2 HP2.out.2.1
    obtain ⟨s0, s1⟩ := cells2 HSP3.out
    go_wp2_with ((with_reducible refine rc_load w.heap.size 0 r ?hx ?hc ?_); (case hx => rfl); (case hc => exact rangeAt_block HP2.out.1))
    refine (with_any r n.kind _ _ _).mono ?_
    rintro e w3 ⟨he, hb3⟩
    rw [HB.out] at he
    subst he
    have HS4 := Lib.hid (HP2.out.call hb3)
    have HSP4 := Lib.hid ((hb3.block _ (Array.getElem?_eq_some_iff.1 HSP3.out).1).trans HSP3.out)
    have HP4 := Lib.hid (HS4.out.put2 b)
    obtain ⟨W4, hW4⟩ : ∃ W, w3.setRow (w.heap.size + 1 + 1 + 1) (rcCells b).toArray = W := ⟨_, rfl⟩
    rw [hW4] at HP4
    have HSP5 := Lib.hid (hpSRe hW4 HSP4.out (by have := HMW.out; omega))
    have HF := Lib.hid HS4.out.2.2.2.1
    clear hb3
    go_upto_region 5 with ((with_reducible refine rc_put (w.heap.size + 1 + 1 + 1) b ?hx ?hy HF.out (Lib.hid rfl) ?_); (case hx => rfl); (case hy => rfl))
    rw [hW4]
    clear HS4 HSP4 HF n0 n1 s0 s1 hW4
    obtain ⟨n0, n1⟩ := cells2 HP4.out.2.1
    obtain ⟨s0, s1⟩ := cells2 HSP5.out
    go_wp2_with ((with_reducible refine rc_load w.heap.size 0 r ?hx ?hc ?_); (case hx => rfl); (case hc => exact rangeAt_block HP4.out.1))
    refine (with_any r n.kind _ _ _).mono ?_
    rintro e w5 ⟨he, hb5⟩
    rw [HC.out] at he
    subst he
    have HS6 := Lib.hid (HP4.out.call hb5)
    have HP6 := Lib.hid (HS6.out.put3 c)
    obtain ⟨W6, hW6⟩ : ∃ W, w5.setRow (w.heap.size + 1 + 1 + 1 + 1) (rcCells c).toArray = W := ⟨_, rfl⟩
    rw [hW6] at HP6
    have HF := Lib.hid HS6.out.2.2.2.2.1
    clear hb5
    go_upto_region 6 with ((with_reducible refine rc_put (w.heap.size + 1 + 1 + 1 + 1) c ?hx ?hy HF.out (Lib.hid rfl) ?_); (case hx => rfl); (case hy => rfl))
    rw [hW6]
    clear HS6 HF n0 n1 s0 s1 hW6
    have HDA := Lib.hid HP6.out.2.2.1
    have HDB := Lib.hid HP6.out.2.2.2.1
    have HDC := Lib.hid HP6.out.2.2.2.2.1
    obtain ⟨V, hV⟩ : ∃ V, W6.drew = V := ⟨_, rfl⟩
    have HV := Lib.hid (show Below w.heap.size w V from hV ▸ bel_drew HP6.out.2.2.2.2.2.1)
    have hda : V.heap[w.heap.size + 1 + 1]? = some (.cells #[.int .i64 a.xa, .int .i64 a.xb, .int .i64 a.ya, .int .i64 a.yb] 25 (0, 0)) := by rw [← hV]; exact HDA.out
    obtain ⟨qa0, qa1, qa2, qa3⟩ := cells4 hda
    obtain ⟨ea0, ea1, ea2, ea3⟩ := same4 hda
    have fa := frz hda
    have HRA := Lib.hid hda
    clear hda
    have hdb : V.heap[w.heap.size + 1 + 1 + 1]? = some (.cells #[.int .i64 b.xa, .int .i64 b.xb, .int .i64 b.ya, .int .i64 b.yb] 25 (0, 0)) := by rw [← hV]; exact HDB.out
    obtain ⟨qb0, qb1, qb2, qb3⟩ := cells4 hdb
    obtain ⟨eb0, eb1, eb2, eb3⟩ := same4 hdb
    have fb := frz hdb
    have HRB := Lib.hid hdb
    clear hdb
    have hdc : V.heap[w.heap.size + 1 + 1 + 1 + 1]? = some (.cells #[.int .i64 c.xa, .int .i64 c.xb, .int .i64 c.ya, .int .i64 c.yb] 25 (0, 0)) := by rw [← hV]; exact HDC.out
    obtain ⟨qc0, qc1, qc2, qc3⟩ := cells4 hdc
    obtain ⟨ec0, ec1, ec2, ec3⟩ := same4 hdc
    have fc := frz hdc
    have HRC := Lib.hid hdc
    clear hdc
    clear HDA HDB HDC HP6 HP4 HP2 HS1
    try simp only [Act.put]
    go_region
    all_goals (try go_wp2_with fail)
    all_goals (try simp only [ea0, ea1, ea2, ea3, eb0, eb1, eb2, eb3, ec0, ec1, ec2, ec3])
    all_goals
      with_reducible refine bodyPost_ret (v := .tuple #[rcV a, rcV b, rcV c]) ?hr ?hd ?hp
      case hr => exact parts_res Tryd.results49 _ _ (w.heap.size + 1 + 1) (w.heap.size + 1 + 1 + 1) (w.heap.size + 1 + 1 + 1 + 1) a b c rfl rfl rfl (rangeAt_block HRA.out) (rangeAt_block HRB.out) (rangeAt_block HRC.out)
      case hd => rfl
      case hp => exact ⟨rfl, HV.out⟩
end Go.Proofs.YtbmcfodhjibooaaDoor
