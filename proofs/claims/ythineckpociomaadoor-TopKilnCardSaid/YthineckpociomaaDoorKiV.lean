/-
  The contract of charge.Dry.
-/
import Derived.Test.YthineckpociomaaDoorKiO
import Derived.Deep.RegionHeldLaw
namespace Go.Proofs.YthineckpociomaaDoor
open Go.RowKit Saw Go.Sort

theorem RdFa.next {w w' : World} {v : Value} {l : List Fa} (h : RdFa w w.heap.size v l) (hb : Below w.heap.size w w') : RdFa w' w'.heap.size v l := Rd.next h hb
theorem results_tct {P : Program} {fn : Func} {p q r : Tmp} {ty : TypeId} (h : fn.results = #[.tmp p, .cell q ty, .tmp r]) (tmps : Array Value) (w : World) (g o : Nat) (cs : List Value) {td : TypeDesc}
    (hp : tmps.getD q undef = .pointer (some ⟨g, o, none⟩)) (hc : w.rangeAt g o cs) (hu : P.underlying ty = some td) (hd : td.isRow = true) (hi : (P.info? ty).map (·.size) = some cs.length) (u v : Value) (hq : tmps.getD p undef = u) (hr : tmps.getD r undef = v) :
    (results fn tmps).run P w = .ok (.tuple #[u, .agg cs.toArray, v]) w := by
  have hp' : tmps[q]?.getD undef = .pointer (some ⟨g, o, none⟩) := by simpa using hp
  have hq' : tmps[p]?.getD undef = u := by simpa using hq
  have hr' : tmps[r]?.getD undef = v := by simpa using hr
  simp [results, h, hp', hq', hr', asAddr, run_loadVar_mid w g o ty cs td hc hu hd hi]
theorem exec_load {P : Program} {a : Act} {d : Option Tmp} {t : TypeId} {x : Operand} {ty : TypeId} {pos : String} {af : Array Edge} {gd : Option (Nat × Bool)} {V : World} (b o : Nat) (cs : List Value) (hx : a.eval x = .pointer (some ⟨b, o, none⟩)) (hc : V.rangeAt b o cs)
    {td : TypeDesc} (hu : P.underlying t = some td) (hd : td.isRow = true) (hi : (P.info? t).map (·.size) = some cs.length) : (execOp a.eval ⟨d, .load t x, ty, pos, af, gd⟩).run P V = .ok (.value (.agg cs.toArray)) V := by
  have hr := run_loadVar_mid (P := P) V b o t cs td hc hu hd hi
  unfold execOp
  simp only [hx, Instr.loadAt, Instr.sureAddr, Sem.run_bind, Sem.run_pure, Result.andThen_ok, hr]
theorem cell_info : (Tryd.prog.info? 38).map (·.size) = some 3 := by kernel_rfl
theorem bo_cellAt {V : World} {n : Nat} {x : Bd} (h : V.heap[n]? = some (.cells (boCells x).toArray 40 (0, 0))) : V.rangeAt n 13 [.int .i64 x.surf, .int .i64 x.core, .int .i64 x.stress] := fun i v hv => by
  have hi : i < 3 := (List.getElem?_eq_some_iff.1 hv).1
  rw [cell_of_row V n (13 + i) _ _ _ h]
  match i, hi with
  | 0, _ => exact hv
  | 1, _ => exact hv
  | 2, _ => exact hv
structure InfoIt (i : TypeInfo) : Prop where
  a : Tryd.prog.info? 60 = some i
  b : i.zero = some (.agg #[.int .i64 0, .int .i64 0, .int .i64 0, .int .i64 0])
  c : i.size = 4
  d : i.bytes = 32
theorem four_mem (a b c d : Int) : ∀ u ∈ [Value.int .i64 a, .int .i64 b, .int .i64 c, .int .i64 d], u.oneCell' = true := by
  intro u hu
  simp only [List.mem_cons, List.not_mem_nil, or_false] at hu
  rcases hu with rfl | rfl | rfl | rfl <;> rfl
theorem rdIt_one {w : World} {a b c d : Int} (h : (w.alloc (.cells #[.int .i64 a, .int .i64 b, .int .i64 c, .int .i64 d] 60)).heap[w.heap.size]? = some (.cells #[.int .i64 a, .int .i64 b, .int .i64 c, .int .i64 d] 60 (0, 0))) : Rd (w.alloc (.cells #[.int .i64 a, .int .i64 b, .int .i64 c, .int .i64 d] 60)) (w.alloc (.cells #[.int .i64 a, .int .i64 b, .int .i64 c, .int .i64 d] 60)).heap.size 4 (.slice (some ⟨w.heap.size, 0, none⟩) 1 1) 1 [.int .i64 a, .int .i64 b, .int .i64 c, .int .i64 d] := by
  have hz := (Array.getElem?_eq_some_iff.1 h).1
  refine ⟨rfl, show 1 ≤ maxLen by decide, some ⟨w.heap.size, 0, none⟩, 1, rfl, Nat.le_refl _, fun _ => ⟨w.heap.size, 0, rfl, hz, fun i y hy => ?_⟩⟩
  rw [cell_of_row _ w.heap.size (0 + i) _ _ _ h, Nat.zero_add, List.getElem?_toArray]
  exact hy
theorem gbo_at {w w' : World} {v : Value} {n : Nat} (h : w.grownBy w' v.ownBlock) (hn : n < w.heap.size) (ho : ¬ v.ownBlock = some n) : w'.heap[n]? = w.heap[n]? := h.block n hn (fun e => ho e.symm)
/-- What a call of Dry leaves. -/
def DryPost (l : List Bd) (s : Sp) (sc : Sc) (fs : List Fa) (t : Int) (w : World) (e : Ending) (w' : World) : Prop :=
  (dryE l s sc fs t ≠ 0 → e = .returned (.tuple #[.slice none 0 0, .agg #[.int .i64 0, .int .i64 0, .int .i64 0, .int .i64 0, .int .i64 0, .int .i64 0], .int .i64 (dryE l s sc fs t)]) ∧ Below w.heap.size w w') ∧
  (dryE l s sc fs t = 0 → ∃ A c r, e = .returned (.tuple #[.slice A l.length c, ruV (runP sc s fs t.toNat (l.map itemP)), .int .i64 0]) ∧ DriedB l (runP sc s fs t.toNat (l.map itemP)).k.items r ∧ RdBo w' (.slice A l.length c) r ∧ Below w.heap.size w w')
set_option maxRecDepth 100000 in
set_option maxHeartbeats 16000000 in
theorem dry_any (l : List Bd) (s : Sp) (sc : Sc) (fs : List Fa) (t : Int) (A : Option Addr) (c : Nat) (A2 : Option Addr) (c2 : Nat) (A3 : Option Addr) (c3 : Nat) (w : World) (hrd : RdBo w (.slice A l.length c) l) (hst : RdSt w w.heap.size (.slice A2 sc.stages.length c2) sc.stages) (hfa : RdFa w w.heap.size (.slice A3 fs.length c3) fs)
    (hbi : ∀ b ∈ l, BdI b ∧ DfOk w w.heap.size (.slice b.da b.dn b.dc) b.dn ∧ b.dn ≤ 1000) (hnm : sc.name.length ≤ 9223372036854775807) (hsn : s.name.length ≤ 9223372036854775807) (hlen : l.length ≤ 1000) (hfl : fs.length ≤ 1000) (hv : VarsK w) :
    Calls Tryd.prog 5 #[.slice A l.length c, .agg #[.string (str s.name), .int .i64 s.green, .int .i64 s.fast, .int .i64 s.slow, .int .i64 s.safe, .int .i64 s.grad, .int .i64 s.crack, .int .i64 s.temp, .int .i64 s.depress, .int .i64 s.density, .int .i64 s.stiff, .int .i64 s.knots, .int .i64 s.shrink], .agg #[.string (str sc.name), .int .i64 sc.ramp, .slice A2 sc.stages.length c2], .slice A3 fs.length c3, .int .i64 t] w (DryPost l s sc fs t w) := by
  obtain ⟨E, hE⟩ : ∃ E, dryE l s sc fs t = E := ⟨_, rfl⟩
  unfold DryPost
  rw [hE]
  have HE := Lib.hid hE
  have HRD := Lib.hid hrd
  have HST := Lib.hid hst
  have HFA := Lib.hid hfa
  have HBI := Lib.hid hbi
  have HL := Lib.hid hlen
  have HFL := Lib.hid hfl
  have HV := Lib.hid hv
  clear hE hrd hst hfa hbi hv
  go_enter Tryd.func5, Tryd.ntmps5
  go_upto_region 1 with fail
  obtain ⟨W3, hW3⟩ : ∃ W3, ((w.alloc (.cells #[.string (str s.name), .int .i64 s.green, .int .i64 s.fast, .int .i64 s.slow, .int .i64 s.safe, .int .i64 s.grad, .int .i64 s.crack, .int .i64 s.temp, .int .i64 s.depress, .int .i64 s.density, .int .i64 s.stiff, .int .i64 s.knots, .int .i64 s.shrink] 24)).alloc (.cells #[.string (str sc.name), .int .i64 sc.ramp, .slice A2 sc.stages.length c2] 27)).alloc (.cells #[.int .i64 0, .int .i64 0, .int .i64 0, .int .i64 0, .int .i64 0, .int .i64 0] 44) = W3 := ⟨_, rfl⟩
  obtain ⟨n1, hn1⟩ : ∃ n, w.heap.size = n := ⟨_, rfl⟩
  have hz1 : (w.alloc (.cells #[.string (str s.name), .int .i64 s.green, .int .i64 s.fast, .int .i64 s.slow, .int .i64 s.safe, .int .i64 s.grad, .int .i64 s.crack, .int .i64 s.temp, .int .i64 s.depress, .int .i64 s.density, .int .i64 s.stiff, .int .i64 s.knots, .int .i64 s.shrink] 24)).heap.size = n1 + 1 := by rw [World.size_alloc, hn1]
  have hz2 : ((w.alloc (.cells #[.string (str s.name), .int .i64 s.green, .int .i64 s.fast, .int .i64 s.slow, .int .i64 s.safe, .int .i64 s.grad, .int .i64 s.crack, .int .i64 s.temp, .int .i64 s.depress, .int .i64 s.density, .int .i64 s.stiff, .int .i64 s.knots, .int .i64 s.shrink] 24)).alloc (.cells #[.string (str sc.name), .int .i64 sc.ramp, .slice A2 sc.stages.length c2] 27)).heap.size = n1 + 2 := by rw [World.size_alloc, hz1]
  have HZ3 := Lib.hid (show W3.heap.size = n1 + 3 by rw [← hW3, World.size_alloc, hz2])
  have HB3 := Lib.hid (show Below w.heap.size w W3 by rw [← hW3]; exact bel_alloc (bel_alloc (bel_alloc (Below.refl _ _))))
  have hp3 : W3.heap[n1]? = some (.cells #[.string (str s.name), .int .i64 s.green, .int .i64 s.fast, .int .i64 s.slow, .int .i64 s.safe, .int .i64 s.grad, .int .i64 s.crack, .int .i64 s.temp, .int .i64 s.depress, .int .i64 s.density, .int .i64 s.stiff, .int .i64 s.knots, .int .i64 s.shrink] 24 (0, 0)) := by rw [← hW3, Below.heap_alloc _ _ _ (by rw [hz2]; omega), Below.heap_alloc _ _ _ (by rw [hz1]; omega), ← hn1]; exact heap_alloc_last w _
  have hc3 : W3.heap[n1 + 1]? = some (.cells #[.string (str sc.name), .int .i64 sc.ramp, .slice A2 sc.stages.length c2] 27 (0, 0)) := by rw [← hW3, Below.heap_alloc _ _ _ (by rw [hz2]; omega), ← hz1]; exact heap_alloc_last (w.alloc (.cells #[.string (str s.name), .int .i64 s.green, .int .i64 s.fast, .int .i64 s.slow, .int .i64 s.safe, .int .i64 s.grad, .int .i64 s.crack, .int .i64 s.temp, .int .i64 s.depress, .int .i64 s.density, .int .i64 s.stiff, .int .i64 s.knots, .int .i64 s.shrink] 24)) _
  have hr3 : W3.heap[n1 + 2]? = some (.cells #[.int .i64 0, .int .i64 0, .int .i64 0, .int .i64 0, .int .i64 0, .int .i64 0] 44 (0, 0)) := by rw [← hW3, ← hz2]; exact heap_alloc_last ((w.alloc (.cells #[.string (str s.name), .int .i64 s.green, .int .i64 s.fast, .int .i64 s.slow, .int .i64 s.safe, .int .i64 s.grad, .int .i64 s.crack, .int .i64 s.temp, .int .i64 s.depress, .int .i64 s.density, .int .i64 s.stiff, .int .i64 s.knots, .int .i64 s.shrink] 24)).alloc (.cells #[.string (str sc.name), .int .i64 sc.ramp, .slice A2 sc.stages.length c2] 27)) _
  rw [hW3]
  rw [hn1]
  have HN1 := Lib.hid hn1
  have HP3 := Lib.hid hp3
  have HC3 := Lib.hid hc3
  have HR3 := Lib.hid hr3
  have y0 := cell_of_row W3 n1 0 _ _ _ hp3
  have y1 := cell_of_row W3 n1 1 _ _ _ hp3
  have y2 := cell_of_row W3 n1 2 _ _ _ hp3
  have y3 := cell_of_row W3 n1 3 _ _ _ hp3
  have y4 := cell_of_row W3 n1 4 _ _ _ hp3
  have y5 := cell_of_row W3 n1 5 _ _ _ hp3
  have y6 := cell_of_row W3 n1 6 _ _ _ hp3
  have y7 := cell_of_row W3 n1 7 _ _ _ hp3
  have y8 := cell_of_row W3 n1 8 _ _ _ hp3
  have y9 := cell_of_row W3 n1 9 _ _ _ hp3
  have y10 := cell_of_row W3 n1 10 _ _ _ hp3
  have y11 := cell_of_row W3 n1 11 _ _ _ hp3
  have y12 := cell_of_row W3 n1 12 _ _ _ hp3
  have z0 := cell_of_row W3 (n1 + 1) 0 _ _ _ hc3
  have z1 := cell_of_row W3 (n1 + 1) 1 _ _ _ hc3
  have z2 := cell_of_row W3 (n1 + 1) 2 _ _ _ hc3
  obtain ⟨C, hC⟩ : ∃ C, checkCh l s sc = C := ⟨_, rfl⟩
  have HCC := Lib.hid hC
  have HCH : Hid (Calls Tryd.prog 11 #[.slice A l.length c, .agg #[.string (str s.name), .int .i64 s.green, .int .i64 s.fast, .int .i64 s.slow, .int .i64 s.safe, .int .i64 s.grad, .int .i64 s.crack, .int .i64 s.temp, .int .i64 s.depress, .int .i64 s.density, .int .i64 s.stiff, .int .i64 s.knots, .int .i64 s.shrink], .agg #[.string (str sc.name), .int .i64 sc.ramp, .slice A2 sc.stages.length c2]] W3 fun e w' => e = .returned (.int .i64 C) ∧ Below W3.heap.size W3 w') := Lib.hid (hC ▸ chCheck_any l s sc A c A2 c2 W3 (Rd.next HRD.out HB3.out) (HST.out.next HB3.out) (fun b hb => (HBI.out b hb).1) hnm hsn hlen)
  clear hW3 hn1 hz1 hz2 hp3 hc3 hr3 hC
  go_wp2_with fail
  refine HCH.out.mono ?_
  rintro e w4 ⟨he, hb4⟩
  subst he
  have HB4 := Lib.hid hb4
  have hr4 := (hb4.block _ (by rw [HZ3.out]; omega)).trans HR3.out
  have HR4 := Lib.hid hr4
  clear hb4 z0 z1 z2 y0 y1 y2 y3 y4 y5 y6 y7 y8 y9 y10 y11 y12
  by_cases hC0 : C = 0
  · subst hC0
    have hE2 : E = if t < 0 ∨ 20000 < t then 9 else firstFa fs := by rw [← HE.out]; unfold dryE; rw [if_neg (by rw [HCC.out]; omega)]
    by_cases ht1 : t < 0
    · have hE9 : E = 9 := by rw [hE2, if_pos (.inl ht1)]
      subst hE9
      have g1 : decide (t < 0) = true := decide_eq_true ht1
      have r0 := cell_of_row w4 (n1 + 2) 0 _ _ _ hr4
      have rf0 := frz hr4 0
      have r1 := cell_of_row w4 (n1 + 2) 1 _ _ _ hr4
      have rf1 := frz hr4 1
      have r2 := cell_of_row w4 (n1 + 2) 2 _ _ _ hr4
      have rf2 := frz hr4 2
      have r3 := cell_of_row w4 (n1 + 2) 3 _ _ _ hr4
      have rf3 := frz hr4 3
      have r4 := cell_of_row w4 (n1 + 2) 4 _ _ _ hr4
      have rf4 := frz hr4 4
      have r5 := cell_of_row w4 (n1 + 2) 5 _ _ _ hr4
      have rf5 := frz hr4 5
      clear hr4 hE2
      go_wp2_with fail
      obtain ⟨X, hX⟩ : ∃ X, (((((w4.setCell ⟨n1 + 2, 0, none⟩ (.int .i64 0)).setCell ⟨n1 + 2, 1, none⟩ (.int .i64 0)).setCell ⟨n1 + 2, 2, none⟩ (.int .i64 0)).setCell ⟨n1 + 2, 3, none⟩ (.int .i64 0)).setCell ⟨n1 + 2, 4, none⟩ (.int .i64 0)).setCell ⟨n1 + 2, 5, none⟩ (.int .i64 0) = X := ⟨_, rfl⟩
      have hXR : X.heap[n1 + 2]? = some (.cells #[.int .i64 0, .int .i64 0, .int .i64 0, .int .i64 0, .int .i64 0, .int .i64 0] 44 (0, 0)) := by
        rw [← hX]
        exact setc_heap (setc_heap (setc_heap (setc_heap (setc_heap (setc_heap HR4.out _ 0) _ 1) _ 2) _ 3) _ 4) _ 5
      have hXB : Below w.heap.size w X := by
        rw [← hX]
        have hle : w.heap.size ≤ n1 + 2 := by rw [HN1.out]; omega
        have h9 : Below w.heap.size w w4 := HB3.out.trans (HB4.out.mono HB3.out.size)
        exact Below.setCell (Below.setCell (Below.setCell (Below.setCell (Below.setCell (Below.setCell h9 (p := ⟨n1 + 2, 0, none⟩) hle _) (p := ⟨n1 + 2, 1, none⟩) hle _) (p := ⟨n1 + 2, 2, none⟩) hle _) (p := ⟨n1 + 2, 3, none⟩) hle _) (p := ⟨n1 + 2, 4, none⟩) hle _) (p := ⟨n1 + 2, 5, none⟩) hle _
      rw [hX]
      refine bodyPost_ret (results_tct Tryd.results5 _ _ (n1 + 2) 0 [.int .i64 0, .int .i64 0, .int .i64 0, .int .i64 0, .int .i64 0, .int .i64 0] rfl (rangeAt_block hXR) Tryd.underlying44 rfl run_info _ _ rfl rfl) rfl ⟨fun _ => ⟨rfl, hXB⟩, fun h0 => absurd h0 ?_⟩
      exact (by decide)
    by_cases ht2 : 20000 < t
    · have hE9 : E = 9 := by rw [hE2, if_pos (.inr ht2)]
      subst hE9
      have g1 : decide (t < 0) = false := decide_eq_false ht1
      have g2 : decide (20000 < t) = true := decide_eq_true ht2
      have r0 := cell_of_row w4 (n1 + 2) 0 _ _ _ hr4
      have rf0 := frz hr4 0
      have r1 := cell_of_row w4 (n1 + 2) 1 _ _ _ hr4
      have rf1 := frz hr4 1
      have r2 := cell_of_row w4 (n1 + 2) 2 _ _ _ hr4
      have rf2 := frz hr4 2
      have r3 := cell_of_row w4 (n1 + 2) 3 _ _ _ hr4
      have rf3 := frz hr4 3
      have r4 := cell_of_row w4 (n1 + 2) 4 _ _ _ hr4
      have rf4 := frz hr4 4
      have r5 := cell_of_row w4 (n1 + 2) 5 _ _ _ hr4
      have rf5 := frz hr4 5
      clear hr4 hE2
      go_wp2_with fail
      obtain ⟨X, hX⟩ : ∃ X, (((((w4.setCell ⟨n1 + 2, 0, none⟩ (.int .i64 0)).setCell ⟨n1 + 2, 1, none⟩ (.int .i64 0)).setCell ⟨n1 + 2, 2, none⟩ (.int .i64 0)).setCell ⟨n1 + 2, 3, none⟩ (.int .i64 0)).setCell ⟨n1 + 2, 4, none⟩ (.int .i64 0)).setCell ⟨n1 + 2, 5, none⟩ (.int .i64 0) = X := ⟨_, rfl⟩
      have hXR : X.heap[n1 + 2]? = some (.cells #[.int .i64 0, .int .i64 0, .int .i64 0, .int .i64 0, .int .i64 0, .int .i64 0] 44 (0, 0)) := by
        rw [← hX]
        exact setc_heap (setc_heap (setc_heap (setc_heap (setc_heap (setc_heap HR4.out _ 0) _ 1) _ 2) _ 3) _ 4) _ 5
      have hXB : Below w.heap.size w X := by
        rw [← hX]
        have hle : w.heap.size ≤ n1 + 2 := by rw [HN1.out]; omega
        have h9 : Below w.heap.size w w4 := HB3.out.trans (HB4.out.mono HB3.out.size)
        exact Below.setCell (Below.setCell (Below.setCell (Below.setCell (Below.setCell (Below.setCell h9 (p := ⟨n1 + 2, 0, none⟩) hle _) (p := ⟨n1 + 2, 1, none⟩) hle _) (p := ⟨n1 + 2, 2, none⟩) hle _) (p := ⟨n1 + 2, 3, none⟩) hle _) (p := ⟨n1 + 2, 4, none⟩) hle _) (p := ⟨n1 + 2, 5, none⟩) hle _
      rw [hX]
      refine bodyPost_ret (results_tct Tryd.results5 _ _ (n1 + 2) 0 [.int .i64 0, .int .i64 0, .int .i64 0, .int .i64 0, .int .i64 0, .int .i64 0] rfl (rangeAt_block hXR) Tryd.underlying44 rfl run_info _ _ rfl rfl) rfl ⟨fun _ => ⟨rfl, hXB⟩, fun h0 => absurd h0 ?_⟩
      exact (by decide)
    have HEF := Lib.hid (show firstFa fs = E by rw [hE2, if_neg (by omega)])
    have g1 : decide (t < 0) = false := decide_eq_false ht1
    have g2 : decide (20000 < t) = false := decide_eq_false ht2
    clear hr4 hE2
    go_wp2_with fail
    go_loopw [39] (fun i wr => ∃ k : Nat, k ≤ fs.length ∧ i = .int .i64 k ∧ firstFa (fs.drop k) = E ∧ Below W3.heap.size W3 wr) (fun i _ => fs.length - (intOf i).toNat)
    case atStart => exact ⟨0, by omega, rfl, HEF.out, HB4.out⟩
    case round =>
      obtain ⟨k, hk, rfl, hrk, hb⟩ := hrel
      have HB := Lib.hid hb
      have HBW := Lib.hid (HB3.out.trans (hb.mono HB3.out.size))
      have hszr := hb.size
      by_cases hlt : k < fs.length
      · have hx : fs[k]? = some fs[k] := List.getElem?_eq_getElem hlt
        obtain ⟨x, hxe⟩ : ∃ x, fs[k] = x := ⟨_, rfl⟩
        rw [hxe] at hx
        obtain ⟨b, off, rfl, hbl, d0, d1, d2⟩ := (HFA.out.next HBW.out).at_ hx
        have HD := Lib.hid (firstFa_drop hx hrk)
        clear hb hxe hx hrk
        go_upto_region 9 with fail
        obtain ⟨Wf, hWf⟩ : ∃ Wf, wr.alloc (.cells #[.int .i64 x.kind, .int .i64 x.fro, .int .i64 x.upto] 54) = Wf := ⟨_, rfl⟩
        obtain ⟨n, hn⟩ : ∃ n, wr.heap.size = n := ⟨_, rfl⟩
        have hF : Wf.heap[n]? = some (.cells #[.int .i64 x.kind, .int .i64 x.fro, .int .i64 x.upto] 54 (0, 0)) := by rw [← hWf, ← hn]; exact heap_alloc_last wr _
        have HBf := Lib.hid (show Below W3.heap.size W3 Wf by rw [← hWf]; exact bel_alloc HB.out)
        have hrf := (HBf.out.block _ (by rw [HZ3.out]; omega)).trans HR3.out
        have HRf := Lib.hid hrf
        have b0 := cell_of_row Wf n 0 _ _ _ hF
        have b1 := cell_of_row Wf n 1 _ _ _ hF
        have b2 := cell_of_row Wf n 2 _ _ _ hF
        rw [hWf]
        rw [hn]
        have r0 := cell_of_row Wf (n1 + 2) 0 _ _ _ hrf
        have rf0 := frz hrf 0
        have r1 := cell_of_row Wf (n1 + 2) 1 _ _ _ hrf
        have rf1 := frz hrf 1
        have r2 := cell_of_row Wf (n1 + 2) 2 _ _ _ hrf
        have rf2 := frz hrf 2
        have r3 := cell_of_row Wf (n1 + 2) 3 _ _ _ hrf
        have rf3 := frz hrf 3
        have r4 := cell_of_row Wf (n1 + 2) 4 _ _ _ hrf
        have rf4 := frz hrf 4
        have r5 := cell_of_row Wf (n1 + 2) 5 _ _ _ hrf
        have rf5 := frz hrf 5
        clear hWf hn hF hrf
        by_cases k1 : x.kind < 1 ∨ 3 < x.kind
        · have hu : checkFa x = 10 := if_pos k1
          have hE9 : E = 10 := by rw [← hu]; exact HD.out.1 (by rw [hu]; decide)
          subst hE9
          by_cases k2 : x.kind < 1
          · have e1 : decide (x.kind < 1) = true := decide_eq_true k2
            clear k1 k2 hu
            go_wp2_with fail
            obtain ⟨X, hX⟩ : ∃ X, (((((Wf.setCell ⟨n1 + 2, 0, none⟩ (.int .i64 0)).setCell ⟨n1 + 2, 1, none⟩ (.int .i64 0)).setCell ⟨n1 + 2, 2, none⟩ (.int .i64 0)).setCell ⟨n1 + 2, 3, none⟩ (.int .i64 0)).setCell ⟨n1 + 2, 4, none⟩ (.int .i64 0)).setCell ⟨n1 + 2, 5, none⟩ (.int .i64 0) = X := ⟨_, rfl⟩
            have hXR : X.heap[n1 + 2]? = some (.cells #[.int .i64 0, .int .i64 0, .int .i64 0, .int .i64 0, .int .i64 0, .int .i64 0] 44 (0, 0)) := by
              rw [← hX]
              exact setc_heap (setc_heap (setc_heap (setc_heap (setc_heap (setc_heap HRf.out _ 0) _ 1) _ 2) _ 3) _ 4) _ 5
            have hXB : Below w.heap.size w X := by
              rw [← hX]
              have hle : w.heap.size ≤ n1 + 2 := by rw [HN1.out]; omega
              have h9 : Below w.heap.size w Wf := HB3.out.trans (HBf.out.mono HB3.out.size)
              exact Below.setCell (Below.setCell (Below.setCell (Below.setCell (Below.setCell (Below.setCell h9 (p := ⟨n1 + 2, 0, none⟩) hle _) (p := ⟨n1 + 2, 1, none⟩) hle _) (p := ⟨n1 + 2, 2, none⟩) hle _) (p := ⟨n1 + 2, 3, none⟩) hle _) (p := ⟨n1 + 2, 4, none⟩) hle _) (p := ⟨n1 + 2, 5, none⟩) hle _
            rw [hX]
            refine bodyPost_ret (results_tct Tryd.results5 _ _ (n1 + 2) 0 [.int .i64 0, .int .i64 0, .int .i64 0, .int .i64 0, .int .i64 0, .int .i64 0] rfl (rangeAt_block hXR) Tryd.underlying44 rfl run_info _ _ rfl rfl) rfl ⟨fun _ => ⟨rfl, hXB⟩, fun h0 => absurd h0 ?_⟩
            exact (by decide)
          · have e1 : decide (x.kind < 1) = false := decide_eq_false k2
            have e2 : decide (3 < x.kind) = true := decide_eq_true (by omega)
            clear k1 k2 hu
            go_wp2_with fail
            obtain ⟨X, hX⟩ : ∃ X, (((((Wf.setCell ⟨n1 + 2, 0, none⟩ (.int .i64 0)).setCell ⟨n1 + 2, 1, none⟩ (.int .i64 0)).setCell ⟨n1 + 2, 2, none⟩ (.int .i64 0)).setCell ⟨n1 + 2, 3, none⟩ (.int .i64 0)).setCell ⟨n1 + 2, 4, none⟩ (.int .i64 0)).setCell ⟨n1 + 2, 5, none⟩ (.int .i64 0) = X := ⟨_, rfl⟩
            have hXR : X.heap[n1 + 2]? = some (.cells #[.int .i64 0, .int .i64 0, .int .i64 0, .int .i64 0, .int .i64 0, .int .i64 0] 44 (0, 0)) := by
              rw [← hX]
              exact setc_heap (setc_heap (setc_heap (setc_heap (setc_heap (setc_heap HRf.out _ 0) _ 1) _ 2) _ 3) _ 4) _ 5
            have hXB : Below w.heap.size w X := by
              rw [← hX]
              have hle : w.heap.size ≤ n1 + 2 := by rw [HN1.out]; omega
              have h9 : Below w.heap.size w Wf := HB3.out.trans (HBf.out.mono HB3.out.size)
              exact Below.setCell (Below.setCell (Below.setCell (Below.setCell (Below.setCell (Below.setCell h9 (p := ⟨n1 + 2, 0, none⟩) hle _) (p := ⟨n1 + 2, 1, none⟩) hle _) (p := ⟨n1 + 2, 2, none⟩) hle _) (p := ⟨n1 + 2, 3, none⟩) hle _) (p := ⟨n1 + 2, 4, none⟩) hle _) (p := ⟨n1 + 2, 5, none⟩) hle _
            rw [hX]
            refine bodyPost_ret (results_tct Tryd.results5 _ _ (n1 + 2) 0 [.int .i64 0, .int .i64 0, .int .i64 0, .int .i64 0, .int .i64 0, .int .i64 0] rfl (rangeAt_block hXR) Tryd.underlying44 rfl run_info _ _ rfl rfl) rfl ⟨fun _ => ⟨rfl, hXB⟩, fun h0 => absurd h0 ?_⟩
            exact (by decide)
        have e1 : decide (x.kind < 1) = false := decide_eq_false (by omega)
        have e2 : decide (3 < x.kind) = false := decide_eq_false (by omega)
        by_cases k3 : x.fro < 0 ∨ x.upto ≤ x.fro ∨ 20000 < x.upto
        · have hu : checkFa x = 9 := by unfold checkFa; rw [if_neg k1, if_pos k3]
          have hE9 : E = 9 := by rw [← hu]; exact HD.out.1 (by rw [hu]; decide)
          subst hE9
          by_cases k4 : x.fro < 0
          · have e3 : decide (x.fro < 0) = true := decide_eq_true k4
            clear k1 k3 k4 hu
            go_wp2_with fail
            obtain ⟨X, hX⟩ : ∃ X, (((((Wf.setCell ⟨n1 + 2, 0, none⟩ (.int .i64 0)).setCell ⟨n1 + 2, 1, none⟩ (.int .i64 0)).setCell ⟨n1 + 2, 2, none⟩ (.int .i64 0)).setCell ⟨n1 + 2, 3, none⟩ (.int .i64 0)).setCell ⟨n1 + 2, 4, none⟩ (.int .i64 0)).setCell ⟨n1 + 2, 5, none⟩ (.int .i64 0) = X := ⟨_, rfl⟩
            have hXR : X.heap[n1 + 2]? = some (.cells #[.int .i64 0, .int .i64 0, .int .i64 0, .int .i64 0, .int .i64 0, .int .i64 0] 44 (0, 0)) := by
              rw [← hX]
              exact setc_heap (setc_heap (setc_heap (setc_heap (setc_heap (setc_heap HRf.out _ 0) _ 1) _ 2) _ 3) _ 4) _ 5
            have hXB : Below w.heap.size w X := by
              rw [← hX]
              have hle : w.heap.size ≤ n1 + 2 := by rw [HN1.out]; omega
              have h9 : Below w.heap.size w Wf := HB3.out.trans (HBf.out.mono HB3.out.size)
              exact Below.setCell (Below.setCell (Below.setCell (Below.setCell (Below.setCell (Below.setCell h9 (p := ⟨n1 + 2, 0, none⟩) hle _) (p := ⟨n1 + 2, 1, none⟩) hle _) (p := ⟨n1 + 2, 2, none⟩) hle _) (p := ⟨n1 + 2, 3, none⟩) hle _) (p := ⟨n1 + 2, 4, none⟩) hle _) (p := ⟨n1 + 2, 5, none⟩) hle _
            rw [hX]
            refine bodyPost_ret (results_tct Tryd.results5 _ _ (n1 + 2) 0 [.int .i64 0, .int .i64 0, .int .i64 0, .int .i64 0, .int .i64 0, .int .i64 0] rfl (rangeAt_block hXR) Tryd.underlying44 rfl run_info _ _ rfl rfl) rfl ⟨fun _ => ⟨rfl, hXB⟩, fun h0 => absurd h0 ?_⟩
            exact (by decide)
          have e3 : decide (x.fro < 0) = false := decide_eq_false k4
          by_cases k5 : x.upto ≤ x.fro
          · have e4 : decide (x.upto ≤ x.fro) = true := decide_eq_true k5
            clear k1 k3 k4 k5 hu
            go_wp2_with fail
            obtain ⟨X, hX⟩ : ∃ X, (((((Wf.setCell ⟨n1 + 2, 0, none⟩ (.int .i64 0)).setCell ⟨n1 + 2, 1, none⟩ (.int .i64 0)).setCell ⟨n1 + 2, 2, none⟩ (.int .i64 0)).setCell ⟨n1 + 2, 3, none⟩ (.int .i64 0)).setCell ⟨n1 + 2, 4, none⟩ (.int .i64 0)).setCell ⟨n1 + 2, 5, none⟩ (.int .i64 0) = X := ⟨_, rfl⟩
            have hXR : X.heap[n1 + 2]? = some (.cells #[.int .i64 0, .int .i64 0, .int .i64 0, .int .i64 0, .int .i64 0, .int .i64 0] 44 (0, 0)) := by
              rw [← hX]
              exact setc_heap (setc_heap (setc_heap (setc_heap (setc_heap (setc_heap HRf.out _ 0) _ 1) _ 2) _ 3) _ 4) _ 5
            have hXB : Below w.heap.size w X := by
              rw [← hX]
              have hle : w.heap.size ≤ n1 + 2 := by rw [HN1.out]; omega
              have h9 : Below w.heap.size w Wf := HB3.out.trans (HBf.out.mono HB3.out.size)
              exact Below.setCell (Below.setCell (Below.setCell (Below.setCell (Below.setCell (Below.setCell h9 (p := ⟨n1 + 2, 0, none⟩) hle _) (p := ⟨n1 + 2, 1, none⟩) hle _) (p := ⟨n1 + 2, 2, none⟩) hle _) (p := ⟨n1 + 2, 3, none⟩) hle _) (p := ⟨n1 + 2, 4, none⟩) hle _) (p := ⟨n1 + 2, 5, none⟩) hle _
            rw [hX]
            refine bodyPost_ret (results_tct Tryd.results5 _ _ (n1 + 2) 0 [.int .i64 0, .int .i64 0, .int .i64 0, .int .i64 0, .int .i64 0, .int .i64 0] rfl (rangeAt_block hXR) Tryd.underlying44 rfl run_info _ _ rfl rfl) rfl ⟨fun _ => ⟨rfl, hXB⟩, fun h0 => absurd h0 ?_⟩
            exact (by decide)
          have e4 : decide (x.upto ≤ x.fro) = false := decide_eq_false k5
          have e5 : decide (20000 < x.upto) = true := decide_eq_true (by omega)
          clear k1 k3 k4 k5 hu
          go_wp2_with fail
          obtain ⟨X, hX⟩ : ∃ X, (((((Wf.setCell ⟨n1 + 2, 0, none⟩ (.int .i64 0)).setCell ⟨n1 + 2, 1, none⟩ (.int .i64 0)).setCell ⟨n1 + 2, 2, none⟩ (.int .i64 0)).setCell ⟨n1 + 2, 3, none⟩ (.int .i64 0)).setCell ⟨n1 + 2, 4, none⟩ (.int .i64 0)).setCell ⟨n1 + 2, 5, none⟩ (.int .i64 0) = X := ⟨_, rfl⟩
          have hXR : X.heap[n1 + 2]? = some (.cells #[.int .i64 0, .int .i64 0, .int .i64 0, .int .i64 0, .int .i64 0, .int .i64 0] 44 (0, 0)) := by
            rw [← hX]
            exact setc_heap (setc_heap (setc_heap (setc_heap (setc_heap (setc_heap HRf.out _ 0) _ 1) _ 2) _ 3) _ 4) _ 5
          have hXB : Below w.heap.size w X := by
            rw [← hX]
            have hle : w.heap.size ≤ n1 + 2 := by rw [HN1.out]; omega
            have h9 : Below w.heap.size w Wf := HB3.out.trans (HBf.out.mono HB3.out.size)
            exact Below.setCell (Below.setCell (Below.setCell (Below.setCell (Below.setCell (Below.setCell h9 (p := ⟨n1 + 2, 0, none⟩) hle _) (p := ⟨n1 + 2, 1, none⟩) hle _) (p := ⟨n1 + 2, 2, none⟩) hle _) (p := ⟨n1 + 2, 3, none⟩) hle _) (p := ⟨n1 + 2, 4, none⟩) hle _) (p := ⟨n1 + 2, 5, none⟩) hle _
          rw [hX]
          refine bodyPost_ret (results_tct Tryd.results5 _ _ (n1 + 2) 0 [.int .i64 0, .int .i64 0, .int .i64 0, .int .i64 0, .int .i64 0, .int .i64 0] rfl (rangeAt_block hXR) Tryd.underlying44 rfl run_info _ _ rfl rfl) rfl ⟨fun _ => ⟨rfl, hXB⟩, fun h0 => absurd h0 ?_⟩
          exact (by decide)
        · have hu : checkFa x = 0 := by unfold checkFa; rw [if_neg k1, if_neg k3]
          have HN := Lib.hid (HD.out.2 hu)
          have e3 : decide (x.fro < 0) = false := decide_eq_false (by omega)
          have e4 : decide (x.upto ≤ x.fro) = false := decide_eq_false (by omega)
          have e5 : decide (20000 < x.upto) = false := decide_eq_false (by omega)
          clear k1 k3 hu
          go_wp2_with fail
          exact ⟨⟨k + 1, by omega, by go_num, HN.out, HBf.out⟩, by simp [intOf]; omega⟩
      · have hE0 : E = 0 := by rw [← hrk, List.drop_eq_nil_of_le (by omega)]; rfl
        subst hE0
        have HBWr := Lib.hid (hb.size)
        clear hb hrk
        obtain ⟨hl0, hfb, hsc0, hsp0⟩ := checkCh_ok HCC.out
        have HALL := Lib.hid (firstBd_all hfb)
        have HS0 := Lib.hid hsc0
        have HP0 := Lib.hid hsp0
        have HSS := Lib.hid (ssOk_of hsc0 hsp0)
        have HFE := Lib.hid HEF.out
        clear hfb hsc0 hsp0
        obtain ⟨i0, hi0, hq0, hq1, hq2⟩ := info_parts info_it
        go_wp2_with ((refine wpList_make_own _ rfl _ _ 57 rfl W3.heap.size 60 i0 _ 4 Tryd.underlying57 hi0 hq0 hq1 .i64 .i64 _ l.length rfl rfl rfl (by rw [hq2]; omega) (by simp only [maxLen]; omega) HBWr.out ?_); intro w5 hown5 hg5; have HO5 := Lib.hid hown5; have HB5 := Lib.hid (HB.out.grown hg5 HBWr.out (fun g hg => by cases hg)); have HBS5 := Lib.hid hg5.size; clear hown5 hg5)
        go_loopw [16, 74] (fun sx i wr => ∃ (k : Nat) (sv : Value), sv = sx ∧ k ≤ l.length ∧ i = .int .i64 k ∧ wr.ownsRow W3.heap.size 60 4 sv k (itsCells ((l.take k).map itemP)) ∧ Below W3.heap.size W3 wr) (fun _ i _ => l.length - (intOf i).toNat)
        case atStart => exact ⟨0, _, rfl, by omega, rfl, by rw [List.take_zero]; exact HO5.out, HB5.out⟩
        case round =>
          obtain ⟨k, sv, rfl, hk, rfl, ho, hb⟩ := hrel
          have HO := Lib.hid ho
          have HB := Lib.hid hb
          have HBW := Lib.hid (HB3.out.trans (hb.mono HB3.out.size))
          have hszr := hb.size
          by_cases hlt : k < l.length
          · have hbx : l[k]? = some l[k] := List.getElem?_eq_getElem hlt
            obtain ⟨x, hbe⟩ : ∃ x, l[k] = x := ⟨_, rfl⟩
            rw [hbe] at hbx
            obtain ⟨bb, bo, rfl, hbbl, hrg⟩ := RdBo.at_ (Rd.next HRD.out HBW.out) hbx
            have HRG := Lib.hid hrg
            have HXI := Lib.hid (HBI.out x (List.mem_of_getElem? hbx)).1
            have HTK := Lib.hid (show (l.take (k + 1)).map itemP = (l.take k).map itemP ++ [itemP x] by rw [List.take_add_one, hbx, List.map_append]; rfl)
            clear hb ho hbx hbe hrg
            go_upto_region 18 with (first
              | ((with_reducible refine bo_load bb (bo + k * 18) x ?hx HRG.out ?_); (case hx => rfl))
              | ((with_reducible refine bo_alloc ?_); intro c5 H5)
              | ((with_reducible refine bo_new x wr.heap.size ?hx rfl ?hy H5 ?_); (case hx => rfl); (case hy => rfl); (try simp only [Act.put, List.setIfInBounds_toArray, List.set_cons_zero, List.set_cons_succ])))
            obtain ⟨W5, hW5⟩ : ∃ W5, wr.alloc (.cells (boCells x).toArray 40) = W5 := ⟨_, rfl⟩
            obtain ⟨n, hn⟩ : ∃ n, wr.heap.size = n := ⟨_, rfl⟩
            have hY5 : W5.heap[n]? = some (.cells (boCells x).toArray 40 (0, 0)) := by rw [← hW5, ← hn]; exact heap_alloc_last wr _
            have HY5 := Lib.hid (show W5.rangeAt n 0 (boCells x) from rangeAt_block hY5)
            have hn5 : n < W5.heap.size := (Array.getElem?_eq_some_iff.1 hY5).1
            have HBr5 := Lib.hid (show Below wr.heap.size wr W5 by rw [← hW5]; exact bel_alloc (Below.refl _ _))
            have HYB := Lib.hid (show W5.drew.heap[n]? = some (.cells (boCells x).toArray 40 (0, 0)) from hY5)
            have HNN := Lib.hid hn
            have HB56 : ∀ {w6 : World}, Below W5.drew.heap.size W5.drew w6 → Below wr.heap.size W5 w6 := fun hb => (bel_drew (Below.refl _ _)).trans (hb.mono HBr5.out.size)
            have HBWA : ∀ {w6 : World} {o : Obj}, Below wr.heap.size wr w6 → W3.heap.size ≤ (w6.alloc o).heap.size := fun hb => Nat.le_trans HB.out.size (Nat.le_trans hb.size (by rw [World.size_alloc]; omega))
            rw [hW5]
            rw [hn]
            clear hW5 hY5 hn
            obtain ⟨t1, ht1⟩ : ∃ t, thickP x = t := ⟨_, rfl⟩
            have HT1 := Lib.hid ht1
            have D1 : Hid (∀ V : World, Calls Tryd.prog 12 #[.agg (boCells x).toArray] V fun e w' => e = .returned (.int .i64 t1) ∧ Below V.heap.size V w') := Lib.hid (fun V => ht1 ▸ thick_any x V HXI.out)
            clear ht1
            have HON : Hid (¬ sv.ownBlock = some n) := Lib.hid (fun h => absurd (ownsRow_lt HO.out h) (show ¬ n < wr.heap.size by rw [HNN.out]; omega))
            refine wp_region_held_drew (S := fun V => V.heap[n]? = some (.cells (boCells x).toArray 40 (0, 0))) (by kernel_rfl) HYB.out (fun hS => ?_)
            refine wpAnyH_take (i := 0) (v := ?_) rfl (by kernel_rfl) (by kernel_rfl) (by kernel_rfl) (fun _ _ _ h => h) (Or.inl ⟨by rfl, ?_⟩) hS ?_
            rotate_left
            · intro V hSw; go_simp; with_reducible rfl
            try simp only [Act.put, List.setIfInBounds_toArray]
            refine wpAnyH_take (i := 1) (v := .agg (boCells x).toArray) rfl (by kernel_rfl) (by kernel_rfl) (by kernel_rfl) (fun _ _ _ h => h) (Or.inl ⟨by rfl, ?_⟩) hS ?_
            · intro V hSw; exact exec_load n 0 (boCells x) rfl (rangeAt_block hSw) Tryd.underlying40 rfl bo_info
            try simp only [Act.put]
            refine wpAnyH_take (i := 3) (v := ?_) rfl (by kernel_rfl) (by kernel_rfl) (by kernel_rfl) (fun _ _ _ h => h) (Or.inl ⟨by rfl, ?_⟩) hS ?_
            rotate_left
            · intro V hSw; go_simp; with_reducible rfl
            try simp only [Act.put]
            refine wpAnyH_take (i := 4) (v := .agg #[.int .i64 x.surf, .int .i64 x.core, .int .i64 x.stress]) rfl (by kernel_rfl) (by kernel_rfl) (by kernel_rfl) (fun _ _ _ h => h) (Or.inl ⟨by rfl, ?_⟩) hS ?_
            · intro V hSw; exact exec_load n 13 [.int .i64 x.surf, .int .i64 x.core, .int .i64 x.stress] rfl (bo_cellAt hSw) Tryd.underlying38 rfl cell_info
            try simp only [Act.put]
            have HS0 := Lib.hid hS
            clear hS
            refine wpAnyH_ready (rs := [2]) (by kernel_rfl) (by simp) ?_
            refine AllReadyH.cons rfl (fun K hK => ?_) AllReadyH.nil
            go_simp
            refine (D1.out W5.drew).mono ?_
            rintro e w6 ⟨he, hb6⟩
            subst he
            go_wp2_with fail
            have HY6 := Lib.hid ((hb6.block n hn5).trans HYB.out)
            have HB6 := Lib.hid (HBr5.out.trans (HB56 hb6))
            refine hK.out _ _ HY6.out (fun _ => ?_)
            clear hK K hb6
            try simp only [Act.put, List.setIfInBounds_toArray]
            refine wpAnyH_take (i := 5) (v := ?_) rfl (by kernel_rfl) (by kernel_rfl) (by kernel_rfl) (fun _ _ _ h => h) (Or.inl ⟨by rfl, ?_⟩) HY6.out ?_
            rotate_left
            · intro V hSw; go_simp; with_reducible rfl
            try simp only [Act.put, List.setIfInBounds_toArray]
            refine wpAnyH_ready (rs := [6]) (by kernel_rfl) (by simp) ?_
            refine AllReadyH.cons rfl (fun K hK => ?_) AllReadyH.nil
            go_simp
            have HYA := Lib.hid (show (w6.alloc (.cells #[.int .i64 t1, .int .i64 x.surf, .int .i64 x.core, .int .i64 x.stress] 60)).heap[n]? = some (.cells (boCells x).toArray 40 (0, 0)) from (Below.heap_alloc _ _ _ (Array.getElem?_eq_some_iff.1 HY6.out).1).trans HY6.out)
            refine hK.out _ _ HYA.out (fun _ => ?_)
            clear hK K
            try simp only [Act.put, List.setIfInBounds_toArray]
            have HOA := Lib.hid (ownsRow_below HO.out (show Below wr.heap.size wr (w6.alloc (.cells #[.int .i64 t1, .int .i64 x.surf, .int .i64 x.core, .int .i64 x.stress] 60)) from bel_alloc HB6.out))
            have HRN := Lib.hid (rdIt_one (heap_alloc_last w6 (.cells #[.int .i64 t1, .int .i64 x.surf, .int .i64 x.core, .int .i64 x.stress] 60)))
            refine wpAnyH_ready (rs := [7]) (by kernel_rfl) (by simp) ?_
            refine AllReadyH.cons rfl (fun K hK => ?_) AllReadyH.nil
            refine step_append_rows _ (by rfl) _ _ 57 (by rfl) W3.heap.size 60 i0 _ 4 32 Tryd.underlying57 hi0 hq0 hq1 hq2 rfl (by omega) _ k (itsCells ((l.take k).map itemP)) (by rfl) HOA.out _ (by rfl) 1 _ [.int .i64 t1, .int .i64 x.surf, .int .i64 x.core, .int .i64 x.stress] HRN.out (four_mem _ _ _ _) (by simp only [maxLen]; omega) (by omega) (HBWA HB6.out) ?_
            intro v7 w7 hown7 hg7
            have HY7 := Lib.hid ((gbo_at hg7 (Array.getElem?_eq_some_iff.1 HYA.out).1 HON.out).trans HYA.out)
            refine hK.out _ _ HY7.out (fun _ => ?_)
            clear hK K
            try simp only [Act.put, List.setIfInBounds_toArray]
            refine wpAnyH_take (i := 8) (v := ?_) rfl (by kernel_rfl) (by kernel_rfl) (by kernel_rfl) (fun _ _ _ h => h) (Or.inl ⟨by rfl, ?_⟩) HY7.out ?_
            rotate_left
            · intro V hSw; go_simp; with_reducible rfl
            try simp only [Act.put]
            refine wpAnyH_done (by kernel_rfl) ?_ _
            have HBF := Lib.hid (show Below W3.heap.size W3 w7 from (show Below W3.heap.size W3 (w6.alloc (.cells #[.int .i64 t1, .int .i64 x.surf, .int .i64 x.core, .int .i64 x.stress] 60)) from bel_alloc (HB.out.trans (HB6.out.mono HB.out.size))).grown hg7 (HBWA HB6.out) (fun g' hg' => ownsRow_base HO.out hg'))
            have HOF := Lib.hid (show w7.ownsRow W3.heap.size 60 4 v7 (k + 1) (itsCells ((l.take (k + 1)).map itemP)) by
              rw [HTK.out, itsCells_snoc, show itCells (itemP x) = [.int .i64 t1, .int .i64 x.surf, .int .i64 x.core, .int .i64 x.stress] by rw [← HT1.out]; rfl]
              exact hown7)
            clear hown7 hg7
            go_wp2_with fail
            exact ⟨⟨k + 1, _, rfl, by omega, by go_num, HOF.out, HBF.out⟩, by simp [intOf]; omega⟩
          · obtain ⟨N, hN⟩ : ∃ N : Nat, t = (N : Int) := ⟨t.toNat, by omega⟩
            subst hN
            obtain ⟨its, hits⟩ : ∃ its, l.map itemP = its := ⟨_, rfl⟩
            have hil : its.length = l.length := by rw [← hits, List.length_map]
            have HIO := Lib.hid (show ∀ x ∈ its, ClOk x.2 ∧ 1 ≤ x.1 ∧ x.1 ≤ 600 by
              intro x hx
              rw [← hits] at hx
              obtain ⟨b, hb, rfl⟩ := List.mem_map.1 hx
              have h9 := checkBd_ok (HALL.out b hb)
              exact ⟨h9.2.2.1, h9.2.2.2.1, h9.2.2.2.2⟩)
            have ho2 : wr.ownsRow W3.heap.size 60 4 sv its.length (itsCells its) := by
              have h9 := HO.out
              rw [List.take_of_length_le (by omega), hits] at h9
              rw [hil, show l.length = k by omega]
              exact h9
            obtain ⟨_, _, Ai, ci, rfl, _, _⟩ := Rd.of_own ho2
            have HITS := Lib.hid (show RdIt wr wr.heap.size (.slice Ai its.length ci) its from Rd.of_own ho2)
            have HIL := Lib.hid hil
            have HEQ := Lib.hid hits
            have hc := (hb.block _ (by rw [HZ3.out]; omega)).trans HC3.out
            have hp := (hb.block _ (by rw [HZ3.out]; omega)).trans HP3.out
            have z0 := cell_of_row wr (n1 + 1) 0 _ _ _ hc
            have z1 := cell_of_row wr (n1 + 1) 1 _ _ _ hc
            have z2 := cell_of_row wr (n1 + 1) 2 _ _ _ hc
            have y0 := cell_of_row wr n1 0 _ _ _ hp
            have y1 := cell_of_row wr n1 1 _ _ _ hp
            have y2 := cell_of_row wr n1 2 _ _ _ hp
            have y3 := cell_of_row wr n1 3 _ _ _ hp
            have y4 := cell_of_row wr n1 4 _ _ _ hp
            have y5 := cell_of_row wr n1 5 _ _ _ hp
            have y6 := cell_of_row wr n1 6 _ _ _ hp
            have y7 := cell_of_row wr n1 7 _ _ _ hp
            have y8 := cell_of_row wr n1 8 _ _ _ hp
            have y9 := cell_of_row wr n1 9 _ _ _ hp
            have y10 := cell_of_row wr n1 10 _ _ _ hp
            have y11 := cell_of_row wr n1 11 _ _ _ hp
            have y12 := cell_of_row wr n1 12 _ _ _ hp
            have HNEW := Lib.hid (new_any sc s its A2 c2 Ai ci wr (HST.out.next HBW.out) HITS.out HS0.out HP0.out hnm hsn (by have := HSS.out.len; omega) (by omega) HIO.out)
            clear hb ho ho2 hc hp hits hil
            go_wp2_with fail
            refine HNEW.out.mono ?_
            rintro e w8 ⟨g, svS, iv, rfl, hg8, hk8, hb8⟩
            have HB8 := Lib.hid (HB.out.trans (hb8.mono HB.out.size))
            have HBW8 := Lib.hid (HBW.out.trans (hb8.mono HBW.out.size))
            have HK8 := Lib.hid hk8
            have HG8 := Lib.hid hg8
            clear hb8 hk8 hg8 z0 z1 z2 y0 y1 y2 y3 y4 y5 y6 y7 y8 y9 y10 y11 y12
            have hgw : w.heap.size ≤ g := Nat.le_trans HBW.out.size HG8.out
            have HST0 := Lib.hid (start_ok (m := 20000) HSS.out HSS.out.grad.2 HIO.out (by have := HIL.out; omega) (fun x hx => by have h9 := (HIO.out x hx).1; rw [gradP_of h9]; have := h9.1; have := h9.2.2.2.1; omega)).k
            have HRUN := Lib.hid (run_any w8 g sc s svS iv (.slice A3 fs.length c3) (startK its) fs N HK8.out HST0.out HSS.out rfl ((HFA.out.below HBW8.out).more hgw) hfl (by omega) (HV.out.next HBW8.out) (Nat.lt_of_lt_of_le HV.out.2 hgw))
            go_wp2_with fail
            refine HRUN.out.mono ?_
            rintro e w9 ⟨he, hg9, iv9, hk9⟩
            obtain ⟨F, hF⟩ : ∃ F, runP sc s fs N its = F := ⟨_, rfl⟩
            have HFF := Lib.hid hF
            have hF2 : runGo sc s fs N 0 ⟨startK its, (startK its).cm, steepest (startK its).items⟩ = F := hF
            rw [hF2] at he hk9
            obtain ⟨a0, ha0⟩ : ∃ a, F.k.ticks = a := ⟨_, rfl⟩
            obtain ⟨a1, ha1⟩ : ∃ a, F.k.held = a := ⟨_, rfl⟩
            obtain ⟨a2, ha2⟩ : ∃ a, F.k.stage = a := ⟨_, rfl⟩
            obtain ⟨a3, ha3⟩ : ∃ a, F.hot.temp = a := ⟨_, rfl⟩
            obtain ⟨a4, ha4⟩ : ∃ a, F.hot.dep = a := ⟨_, rfl⟩
            obtain ⟨a5, ha5⟩ : ∃ a, F.grad = a := ⟨_, rfl⟩
            have hru : ruV F = .agg #[.int .i64 a0, .int .i64 a1, .int .i64 a2, .int .i64 a3, .int .i64 a4, .int .i64 a5] := by unfold ruV; rw [ha0, ha1, ha2, ha3, ha4, ha5]
            have HRU := Lib.hid hru
            have he : e = .returned (.agg #[.int .i64 a0, .int .i64 a1, .int .i64 a2, .int .i64 a3, .int .i64 a4, .int .i64 a5]) := by rw [he, hru]
            subst he
            have HOF := Lib.hid (hF ▸ runGo_ok (fs := fs) HSS.out HSS.out.grad.2 N 0 (startR its) (start_ok (m := 20000) HSS.out HSS.out.grad.2 HIO.out (by have := HIL.out; omega) (fun x hx => by have h9 := (HIO.out x hx).1; rw [gradP_of h9]; have := h9.1; have := h9.2.2.2.1; omega)) : RuOk sc s its 20000 F)
            have hgsz := HK8.out.sz
            have HBW9 := Lib.hid (HBW8.out.trans ((gbt_low hg9 hgsz).mono hgw))
            have HR9 := Lib.hid ((gbt_lt hg9 (Nat.lt_of_lt_of_le (by rw [HZ3.out]; omega) HB8.out.size) (by have h1 := HG8.out; have h2 := HB.out.size; have h3 := HZ3.out; omega)).trans ((HB8.out.block _ (by rw [HZ3.out]; omega)).trans HR3.out))
            have HK9 := Lib.hid hk9
            clear hru ha0 ha1 ha2 ha3 ha4 ha5 hg9 hk9 hF hF2
            go_upto_region 24 with fail
            obtain ⟨W10, hW10⟩ : ∃ W, w9.alloc (.cells #[.int .i64 a0, .int .i64 a1, .int .i64 a2, .int .i64 a3, .int .i64 a4, .int .i64 a5] 44) = W := ⟨_, rfl⟩
            obtain ⟨nr, hnr⟩ : ∃ n, w9.heap.size = n := ⟨_, rfl⟩
            have HS10 := Lib.hid (show W10.drew.heap[nr]? = some (.cells #[.int .i64 a0, .int .i64 a1, .int .i64 a2, .int .i64 a3, .int .i64 a4, .int .i64 a5] 44 (0, 0)) by rw [← hW10, ← hnr]; exact heap_alloc_last w9 _)
            have HK10 := Lib.hid (show KnAt W10.drew g sc s svS iv9 F.k by rw [← hW10]; exact (HK9.out.alloc _).drew)
            have HBW10 := Lib.hid (show Below w.heap.size w W10.drew by rw [← hW10]; exact bel_drew (bel_alloc HBW9.out))
            have HR10 := Lib.hid (show W10.drew.heap[n1 + 2]? = some (.cells #[.int .i64 0, .int .i64 0, .int .i64 0, .int .i64 0, .int .i64 0, .int .i64 0] 44 (0, 0)) by rw [← hW10]; exact (Below.heap_alloc _ _ _ (Array.getElem?_eq_some_iff.1 HR9.out).1).trans HR9.out)
            have HNR := Lib.hid (show n1 + 2 ≠ nr by have h9 := (Array.getElem?_eq_some_iff.1 HR9.out).1; omega)
            rw [hW10]
            rw [hnr]
            clear hW10 hnr
            refine wp_region_held_drew (S := fun V => V.heap[nr]? = some (.cells #[.int .i64 a0, .int .i64 a1, .int .i64 a2, .int .i64 a3, .int .i64 a4, .int .i64 a5] 44 (0, 0))) (by kernel_rfl) HS10.out (fun hS => ?_)
            refine wpAnyH_take (i := 0) (v := ?_) rfl (by kernel_rfl) (by kernel_rfl) (by kernel_rfl) (fun _ _ _ h => h) (Or.inl ⟨by rfl, ?_⟩) hS ?_
            rotate_left
            · intro V hSw; go_simp; with_reducible rfl
            try simp only [Act.put, List.setIfInBounds_toArray]
            refine wpAnyH_take (i := 1) (v := ?_) rfl (by kernel_rfl) (by kernel_rfl) (by kernel_rfl) (fun _ _ _ h => h) (Or.inl ⟨by rfl, ?_⟩) hS ?_
            rotate_left
            · intro V hSw; go_simp; with_reducible rfl
            try simp only [Act.put]
            refine wpAnyH_take (i := 4) (v := .agg #[.int .i64 a0, .int .i64 a1, .int .i64 a2, .int .i64 a3, .int .i64 a4, .int .i64 a5]) rfl (by kernel_rfl) (by kernel_rfl) (by kernel_rfl) (fun _ _ _ h => h) (Or.inl ⟨by rfl, ?_⟩) hS ?_
            · intro V hSw; exact exec_load nr 0 [.int .i64 a0, .int .i64 a1, .int .i64 a2, .int .i64 a3, .int .i64 a4, .int .i64 a5] rfl (rangeAt_block hSw) Tryd.underlying44 rfl run_info
            try simp only [Act.put]
            clear hS
            refine wpAnyH_ready (rs := [2]) (by kernel_rfl) (by simp) ?_
            refine AllReadyH.cons rfl (fun K hK => ?_) AllReadyH.nil
            go_simp
            refine (items_any W10.drew g sc s svS iv9 F.k HK10.out HOF.out.k.len.2).mono ?_
            rintro e w11 ⟨A11, c11, rfl, ho11, hb11⟩
            go_wp2_with fail
            have HS11 := Lib.hid ((hb11.block _ (Array.getElem?_eq_some_iff.1 HS10.out).1).trans HS10.out)
            have HR11 := Lib.hid ((hb11.block _ (Array.getElem?_eq_some_iff.1 HR10.out).1).trans HR10.out)
            have HBW11 := Lib.hid (HBW10.out.trans (hb11.mono HBW10.out.size))
            have HI11 := Lib.hid (show RdIt w11 w11.heap.size (.slice A11 F.k.items.length c11) F.k.items from Rd.of_own ho11)
            refine hK.out _ _ HS11.out (fun _ => ?_)
            clear hK K hb11 ho11
            try simp only [Act.put, List.setIfInBounds_toArray]
            refine wpAnyH_ready (rs := [3]) (by kernel_rfl) (by simp) ?_
            refine AllReadyH.cons rfl (fun K hK => ?_) AllReadyH.nil
            go_simp
            refine (chDried_any l F.k.items A c A11 c11 w11 (Rd.next HRD.out HBW11.out) HI11.out (by have h1 := HOF.out.len; have h2 := HIL.out; omega) HL.out (fun b hb => ⟨((HBI.out b hb).2.1).next HBW11.out, (HBI.out b hb).2.2⟩)).mono ?_
            rintro e w12 ⟨A12, c12, r, rfl, hdr, ho12, hb12⟩
            go_wp2_with fail
            have HS12 := Lib.hid ((hb12.block _ (Array.getElem?_eq_some_iff.1 HS11.out).1).trans HS11.out)
            have HR12 := Lib.hid ((hb12.block _ (Array.getElem?_eq_some_iff.1 HR11.out).1).trans HR11.out)
            have HBW12 := Lib.hid (HBW11.out.trans (hb12.mono HBW11.out.size))
            have HO12 := Lib.hid ho12
            have HDR := Lib.hid hdr
            refine hK.out _ _ HS12.out (fun _ => ?_)
            clear hK K hb12 ho12 hdr
            try simp only [Act.put, List.setIfInBounds_toArray]
            refine wpAnyH_take (i := 5) (v := ?_) rfl (by kernel_rfl) (by kernel_rfl) (by kernel_rfl) (fun _ _ _ h => h) (Or.inl ⟨by rfl, ?_⟩) HS12.out ?_
            rotate_left
            · intro V hSw; go_simp; with_reducible rfl
            try simp only [Act.put, List.setIfInBounds_toArray]
            refine wpAnyH_ready (rs := [6]) (by kernel_rfl) (by simp) ?_
            refine AllReadyH.cons rfl (fun K hK => ?_) AllReadyH.nil
            have hr12 := HR12.out
            have r0 := cell_of_row w12 (n1 + 2) 0 _ _ _ hr12
            have rf0 := frz hr12 0
            have r1 := cell_of_row w12 (n1 + 2) 1 _ _ _ hr12
            have rf1 := frz hr12 1
            have r2 := cell_of_row w12 (n1 + 2) 2 _ _ _ hr12
            have rf2 := frz hr12 2
            have r3 := cell_of_row w12 (n1 + 2) 3 _ _ _ hr12
            have rf3 := frz hr12 3
            have r4 := cell_of_row w12 (n1 + 2) 4 _ _ _ hr12
            have rf4 := frz hr12 4
            have r5 := cell_of_row w12 (n1 + 2) 5 _ _ _ hr12
            have rf5 := frz hr12 5
            clear hr12
            go_simp
            have hle : w.heap.size ≤ n1 + 2 := by rw [HN1.out]; omega
            obtain ⟨X, hX⟩ : ∃ X, ((((((w12).setCell ⟨n1 + 2, 0, none⟩ (.int .i64 a0)).setCell ⟨n1 + 2, 1, none⟩ (.int .i64 a1)).setCell ⟨n1 + 2, 2, none⟩ (.int .i64 a2)).setCell ⟨n1 + 2, 3, none⟩ (.int .i64 a3)).setCell ⟨n1 + 2, 4, none⟩ (.int .i64 a4)).setCell ⟨n1 + 2, 5, none⟩ (.int .i64 a5) = X := ⟨_, rfl⟩
            have HXR := Lib.hid (show X.heap[n1 + 2]? = some (.cells #[.int .i64 a0, .int .i64 a1, .int .i64 a2, .int .i64 a3, .int .i64 a4, .int .i64 a5] 44 (0, 0)) by rw [← hX]; exact setc_heap (setc_heap (setc_heap (setc_heap (setc_heap (setc_heap (HR12.out) _ 0) _ 1) _ 2) _ 3) _ 4) _ 5)
            have HXS := Lib.hid (show X.heap[nr]? = some (.cells #[.int .i64 a0, .int .i64 a1, .int .i64 a2, .int .i64 a3, .int .i64 a4, .int .i64 a5] 44 (0, 0)) by rw [← hX]; exact (Below.heap_setCell _ _ _ _ (by show nr ≠ n1 + 2; exact HNR.out.symm)).trans ((Below.heap_setCell _ _ _ _ (by show nr ≠ n1 + 2; exact HNR.out.symm)).trans ((Below.heap_setCell _ _ _ _ (by show nr ≠ n1 + 2; exact HNR.out.symm)).trans ((Below.heap_setCell _ _ _ _ (by show nr ≠ n1 + 2; exact HNR.out.symm)).trans ((Below.heap_setCell _ _ _ _ (by show nr ≠ n1 + 2; exact HNR.out.symm)).trans ((Below.heap_setCell _ _ _ _ (by show nr ≠ n1 + 2; exact HNR.out.symm)).trans (HS12.out)))))))
            have HXB := Lib.hid (show Below w.heap.size w X by rw [← hX]; exact Below.setCell (Below.setCell (Below.setCell (Below.setCell (Below.setCell (Below.setCell (HBW12.out) (p := ⟨n1 + 2, 0, none⟩) hle _) (p := ⟨n1 + 2, 1, none⟩) hle _) (p := ⟨n1 + 2, 2, none⟩) hle _) (p := ⟨n1 + 2, 3, none⟩) hle _) (p := ⟨n1 + 2, 4, none⟩) hle _) (p := ⟨n1 + 2, 5, none⟩) hle _)
            have HXO := Lib.hid (show Rd X X.heap.size 18 (.slice A12 F.k.items.length c12) F.k.items.length (bosCells r) by
              have hown : ¬ (Value.slice A12 F.k.items.length c12).ownBlock = some (n1 + 2) := fun h => by
                have h9 := ownsRow_base HO12.out h
                have h8 := (Array.getElem?_eq_some_iff.1 HR11.out).1
                omega
              rw [← hX]
              have h1 : ∀ {V : World} {j : Nat} {u : Value}, Rd V V.heap.size 18 (.slice A12 F.k.items.length c12) F.k.items.length (bosCells r) → Rd (V.setCell ⟨n1 + 2, j, none⟩ u) (V.setCell ⟨n1 + 2, j, none⟩ u).heap.size 18 (.slice A12 F.k.items.length c12) F.k.items.length (bosCells r) := fun {V j u} h => by
                rw [show (V.setCell ⟨n1 + 2, j, none⟩ u).heap.size = V.heap.size by simp [World.setCell]]
                exact rd_setO h hown
              exact h1 (h1 (h1 (h1 (h1 (h1 (Rd.of_own HO12.out)))))))
            rw [hX]
            clear hX r0 r1 r2 r3 r4 r5 rf0 rf1 rf2 rf3 rf4 rf5
            refine hK.out _ _ HXS.out (fun _ => ?_)
            clear hK K
            try simp only [Act.put, List.setIfInBounds_toArray]
            refine wpAnyH_take (i := 7) (v := ?_) rfl (by kernel_rfl) (by kernel_rfl) (by kernel_rfl) (fun _ _ _ h => h) (Or.inl ⟨by rfl, ?_⟩) HXS.out ?_
            rotate_left
            · intro V hSw; go_simp; with_reducible rfl
            try simp only [Act.put, List.setIfInBounds_toArray]
            refine wpAnyH_done (by kernel_rfl) ?_ _
            go_wp2_with fail
            have hfl2 : F.k.items.length = l.length := by have h1 := HOF.out.len; have h2 := HIL.out; omega
            have HXO2 := HXO.out
            rw [hfl2] at HXO2
            refine bodyPost_ret (results_tct Tryd.results5 _ _ (n1 + 2) 0 [.int .i64 a0, .int .i64 a1, .int .i64 a2, .int .i64 a3, .int .i64 a4, .int .i64 a5] rfl (rangeAt_block HXR.out) Tryd.underlying44 rfl run_info _ _ rfl rfl) rfl ⟨A12, c12, ?_, r, ?_, ?_, HXB.out⟩
            · (try rw [Int.toNat_natCast]); rw [HEQ.out, HFF.out, HRU.out, ← hfl2]; rfl
            · (try rw [Int.toNat_natCast]); rw [HEQ.out, HFF.out]; exact HDR.out
            · have hrl : r.length = l.length := by rw [HDR.out.1, hfl2]
              show Rd X X.heap.size 18 _ r.length (bosCells r)
              rw [hrl]; exact HXO2
  · have hcb : (C != 0) = true := by rw [bne_iff_ne]; exact hC0
    have hEC : E = C := by rw [← HE.out]; unfold dryE; rw [if_pos (by rw [HCC.out]; exact hC0), HCC.out]
    subst hEC
    have r0 := cell_of_row w4 (n1 + 2) 0 _ _ _ hr4
    have rf0 := frz hr4 0
    have r1 := cell_of_row w4 (n1 + 2) 1 _ _ _ hr4
    have rf1 := frz hr4 1
    have r2 := cell_of_row w4 (n1 + 2) 2 _ _ _ hr4
    have rf2 := frz hr4 2
    have r3 := cell_of_row w4 (n1 + 2) 3 _ _ _ hr4
    have rf3 := frz hr4 3
    have r4 := cell_of_row w4 (n1 + 2) 4 _ _ _ hr4
    have rf4 := frz hr4 4
    have r5 := cell_of_row w4 (n1 + 2) 5 _ _ _ hr4
    have rf5 := frz hr4 5
    clear hr4
    go_wp2_with fail
    obtain ⟨X, hX⟩ : ∃ X, (((((w4.setCell ⟨n1 + 2, 0, none⟩ (.int .i64 0)).setCell ⟨n1 + 2, 1, none⟩ (.int .i64 0)).setCell ⟨n1 + 2, 2, none⟩ (.int .i64 0)).setCell ⟨n1 + 2, 3, none⟩ (.int .i64 0)).setCell ⟨n1 + 2, 4, none⟩ (.int .i64 0)).setCell ⟨n1 + 2, 5, none⟩ (.int .i64 0) = X := ⟨_, rfl⟩
    have hXR : X.heap[n1 + 2]? = some (.cells #[.int .i64 0, .int .i64 0, .int .i64 0, .int .i64 0, .int .i64 0, .int .i64 0] 44 (0, 0)) := by
      rw [← hX]
      exact setc_heap (setc_heap (setc_heap (setc_heap (setc_heap (setc_heap HR4.out _ 0) _ 1) _ 2) _ 3) _ 4) _ 5
    have hXB : Below w.heap.size w X := by
      rw [← hX]
      have hle : w.heap.size ≤ n1 + 2 := by rw [HN1.out]; omega
      have h9 : Below w.heap.size w w4 := HB3.out.trans (HB4.out.mono HB3.out.size)
      exact Below.setCell (Below.setCell (Below.setCell (Below.setCell (Below.setCell (Below.setCell h9 (p := ⟨n1 + 2, 0, none⟩) hle _) (p := ⟨n1 + 2, 1, none⟩) hle _) (p := ⟨n1 + 2, 2, none⟩) hle _) (p := ⟨n1 + 2, 3, none⟩) hle _) (p := ⟨n1 + 2, 4, none⟩) hle _) (p := ⟨n1 + 2, 5, none⟩) hle _
    rw [hX]
    refine bodyPost_ret (results_tct Tryd.results5 _ _ (n1 + 2) 0 [.int .i64 0, .int .i64 0, .int .i64 0, .int .i64 0, .int .i64 0, .int .i64 0] rfl (rangeAt_block hXR) Tryd.underlying44 rfl run_info _ _ rfl rfl) rfl ⟨fun _ => ⟨rfl, hXB⟩, fun h0 => absurd h0 ?_⟩
    exact hC0
end Go.Proofs.YthineckpociomaaDoor
