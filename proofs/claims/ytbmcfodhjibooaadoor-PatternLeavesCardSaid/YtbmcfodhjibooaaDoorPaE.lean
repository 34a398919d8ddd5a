/-
  The contract of pattern's check.
-/
import Derived.Test.YtbmcfodhjibooaaDoorPaD
import Derived.RangeFuncCalls
namespace Saw
/-- All that have come have passed. -/
def PassP (board : Rc → Int → Int) (ns : List Nd) (pre : List (Nat × Plc)) : Prop := ∀ (j : Nat) (p : Nat × Plc), pre[j]? = some p → ∃ n, ns[j]? = some n ∧ fullErr board n p.2 = 0
theorem PassP.nil (board : Rc → Int → Int) (ns : List Nd) : PassP board ns [] := fun j p h => by simp at h
theorem PassP.snoc {board : Rc → Int → Int} {ns : List Nd} {pre : List (Nat × Plc)} {x : Nat × Plc} {n : Nd} (h : PassP board ns pre) (hn : ns[pre.length]? = some n) (hx : fullErr board n x.2 = 0) : PassP board ns (pre ++ [x]) := fun j p hp => by
  by_cases hj : j < pre.length
  · rw [List.getElem?_append_left hj] at hp
    exact h j p hp
  · rw [List.getElem?_append_right (by omega)] at hp
    have hj2 : j - pre.length = 0 := by
      have := (List.getElem?_eq_some_iff.1 hp).1
      simp at this
      omega
    rw [hj2] at hp
    simp only [List.getElem?_cons_zero, Option.some.injEq] at hp
    subst hp
    exact ⟨n, by rw [show j = pre.length by omega]; exact hn, hx⟩
theorem fullErr_node {board : Rc → Int → Int} {n : Nd} {x : Plc} (h : fullErr board n x = 0) : nodeErr n x = 0 := by
  unfold fullErr at h
  split at h
  · rename_i h1; exact h1.1
  · exact h
theorem wrap_small {n : Int} (h0 : -9223372036854775808 ≤ n) (h1 : n ≤ 9223372036854775807) : Go.IntKind.i64.wrap n = n := by
  rw [Go.IntKind.wrap_i64]; omega
theorem part_ok {n : Nd} {x : Plc} {kerf : Int} (hk : 0 ≤ kerf ∧ kerf ≤ 20) (hr : RcOk x.rect) (h : nodeErr n x = 0) (hp : ripP n.kind = true) : RcOk (part1 x.rect n) ∧ RcOk (partC x.rect n kerf) ∧ RcOk (part2 x.rect n kerf) ∧ lowP x.rect n.kind < n.pos ∧ n.pos < highP x.rect n.kind ∧ endP x.rect n kerf = min (n.pos + kerf) (highP x.rect n.kind) := by
  unfold nodeErr at h
  split at h
  · cases h
  · split at h
    · cases h
    · split at h
      · cases h
      · rename_i h3
        have h4 : lowP x.rect n.kind < n.pos ∧ n.pos < highP x.rect n.kind := by
          constructor
          · exact Decidable.byContradiction fun h5 => h3 ⟨hp, .inl (by omega)⟩
          · exact Decidable.byContradiction fun h5 => h3 ⟨hp, .inr (by omega)⟩
        obtain ⟨o1, o2, o3, o4, o5, o6⟩ := hr
        have hb : -600 ≤ n.pos ∧ n.pos ≤ 600 := by
          unfold lowP highP at h4
          split at h4 <;> omega
        have he : endP x.rect n kerf = min (n.pos + kerf) (highP x.rect n.kind) := by
          rw [endP, wrap_small (by omega) (by omega)]
        refine ⟨?_, ?_, ?_, h4.1, h4.2, he⟩
        all_goals
          first
            | rw [part1]
            | (rw [partC, he])
            | (rw [part2, he])
          unfold RcOk withP
          unfold lowP highP at *
          split <;> simp_all <;> omega
/-- Where a round stands: its index, what the check says there, and that its rectangle is one. -/
theorem round_at {board : Rc → Int → Int} {kerf : Int} (hk : 0 ≤ kerf ∧ kerf ≤ 20) : ∀ (ns : List Nd) (st : List Plc) (k i : Nat) (pre : List (Nat × Plc)) (x : Plc) (rest : List (Nat × Plc)),
    (∀ y ∈ st, RcOk y.rect) → ixs k (plsP kerf ns st) = pre ++ (i, x) :: rest → PassP board ns pre →
    i = k + pre.length ∧ RcOk x.rect ∧ (ns[pre.length]? = none → chkL kerf board ns st = 3) ∧ ∀ n, ns[pre.length]? = some n → fullErr board n x ≠ 0 → chkL kerf board ns st = fullErr board n x
  | ns, [], k, i, pre, x, rest, _, h, _ => by
    rw [plsP_nil, ixs] at h
    cases pre <;> cases h
  | [], y :: st, k, i, pre, x, rest, hst, h, _ => by
    rw [plsP, ixs, ixs] at h
    cases pre with
    | nil =>
      rw [List.nil_append] at h
      injection h with h1 h2
      injection h1 with h3 h4
      subst h3 h4
      exact ⟨rfl, hst y (by simp), fun _ => rfl, fun n hn => by simp at hn⟩
    | cons p pre =>
      rw [List.cons_append] at h
      injection h with h1 h2
      cases pre <;> cases h2
  | n :: ns, y :: st, k, i, pre, x, rest, hst, h, hp => by
    rw [plsP, ixs] at h
    cases pre with
    | nil =>
      rw [List.nil_append] at h
      injection h with h1 h2
      injection h1 with h3 h4
      subst h3 h4
      refine ⟨rfl, hst y (by simp), fun hn => by simp at hn, fun m hm hf => ?_⟩
      simp only [List.length_nil, List.getElem?_cons_zero, Option.some.injEq] at hm
      subst hm
      rw [chkL, if_pos hf]
    | cons p pre =>
      rw [List.cons_append] at h
      injection h with h1 h2
      subst h1
      obtain ⟨m, hm, hf⟩ := hp 0 (k, y) rfl
      simp only [List.getElem?_cons_zero, Option.some.injEq] at hm
      subst hm
      simp only at hf
      have hst2 : ∀ z ∈ pushP kerf n y st, RcOk z.rect := by
        intro z hz
        unfold pushP at hz
        split at hz
        · rename_i hr
          obtain ⟨q1, _, q2, _⟩ := part_ok hk (hst y (by simp)) (fullErr_node hf) hr
          simp only [List.mem_cons] at hz
          rcases hz with rfl | rfl | hz
          · exact q1
          · exact q2
          · exact hst z (by simp [hz])
        · exact hst z (by simp [hz])
      obtain ⟨j1, j2, j3, j4⟩ := round_at hk ns (pushP kerf n y st) (k + 1) i pre x rest hst2 h2 (fun j q hq => by
        obtain ⟨m, hm, hx⟩ := hp (j + 1) q (by simpa using hq)
        exact ⟨m, by simpa using hm, hx⟩)
      refine ⟨by rw [j1, List.length_cons]; omega, j2, fun hn => ?_, fun m hm hx => ?_⟩
      · rw [chkL, if_neg (by rw [hf]; decide)]
        exact j3 (by simpa using hn)
      · rw [chkL, if_neg (by rw [hf]; decide)]
        exact j4 m (by simpa using hm) hx
/-- Behind all rounds. -/
theorem round_end {board : Rc → Int → Int} {kerf : Int} : ∀ (ns : List Nd) (st : List Plc) (k : Nat), PassP board ns (ixs k (plsP kerf ns st)) →
    (plsP kerf ns st).length ≤ ns.length ∧ chkL kerf board ns st = if (plsP kerf ns st).length < ns.length then 4 else 0
  | [], [], _, _ => ⟨Nat.le_refl _, rfl⟩
  | n :: ns, [], _, _ => ⟨by simp [plsP], by simp [plsP, chkL]⟩
  | [], y :: st, k, h => by
    obtain ⟨n, hn, _⟩ := h 0 (k, y) rfl
    simp at hn
  | n :: ns, y :: st, k, h => by
    obtain ⟨m, hm, hf⟩ := h 0 (k, y) rfl
    simp only [List.getElem?_cons_zero, Option.some.injEq] at hm
    subst hm
    simp only at hf
    obtain ⟨i1, i2⟩ := round_end ns (pushP kerf n y st) (k + 1) (fun j p hp => by
      obtain ⟨m, hm, hx⟩ := h (j + 1) p (by rw [plsP, ixs]; simpa using hp)
      exact ⟨m, by simpa using hm, hx⟩)
    rw [plsP, List.length_cons, List.length_cons, chkL, if_neg (by rw [hf]; decide), i2]
    refine ⟨by omega, ?_⟩
    by_cases hl : (plsP kerf ns (pushP kerf n y st)).length < ns.length
    · rw [if_pos hl, if_pos (by omega)]
    · rw [if_neg hl, if_neg (by omega)]
theorem frame_ok {r : Rc} (h : frameP r = true) : RcOk r := by
  have := frameP_iff.1 h
  unfold RcOk
  omega
end Saw
namespace Go.Proofs.YtbmcfodhjibooaaDoor
open Go.RowKit Saw Go.Shelf
attribute [local go_sem] Oper.semAt_some

theorem en_res {fn : Func} {p : Tmp} (h : fn.results = #[.cell p 30]) (tmps : Array Value) (W : World) (g : Nat) (q : Int) (hp : tmps.getD p undef = .pointer (some ⟨g, 0, none⟩)) (hc : W.cell? ⟨g, 0, none⟩ = some (.int .i64 q)) : (results fn tmps).run Tryd.prog W = .ok (.int .i64 q) W := by
  have hp' : tmps[p]?.getD undef = .pointer (some ⟨g, 0, none⟩) := by simpa using hp
  have hu := Tryd.underlying30
  simp [results, h, hp', go_sem, hc]

theorem setX {w W : World} {X : Nat → Prop} {M : Nat} {v : Value} (hX : ∀ b, X b → M < b) (hM : w.heap.size ≤ M) : KeepX w.heap.size X W (W.setCell ⟨M, 0, none⟩ v) :=
  ⟨(Below.refl w.heap.size W).setCell (p := ⟨M, 0, none⟩) hM _, fun b hb => Below.heap_setCell _ _ _ _ (by have := hX b hb; simp only; omega)⟩
theorem boxSet {W : World} {M : Nat} {u : Value} {t : TypeId} (h : W.heap[M]? = some (.cells #[u] t (0, 0))) (v : Value) {v' : Value} (e : v = v') : (W.setCell ⟨M, 0, none⟩ v).heap[M]? = some (.cells #[v'] t (0, 0)) := by
  rw [setCell_eq_setRow _ _ _ _ _ _ _ h, setRow_heap _ _ _ _ _ _ h, e]
  rfl
theorem isFrame_rc (r : Rc) (w : World) : Calls Tryd.prog 51 #[rcV r] w (BoolB (frameP r) w) := isFrame_any r w

/-- How memory stands in check: the boxes of the pattern, of the function, of the result. -/
def ChkSt (w W : World) (r : Rc) (nv fv : Value) (e : Int) : Prop :=
  PatAt W w.heap.size r nv ∧ W.heap[w.heap.size + 1]? = some (.cells #[fv] 81 (0, 0)) ∧ W.heap[w.heap.size + 1 + 1]? = some (.cells #[.int .i64 e] 30 (0, 0)) ∧ Below w.heap.size w W ∧ w.heap.size + 1 + 1 < W.heap.size
section
variable {w W W' : World} {r : Rc} {nv fv : Value} {e : Int} {row : Option Nat}
theorem ChkSt.start (w : World) (r : Rc) (nv fv : Value) : ChkSt w (((w.alloc (.cells #[.int .i64 r.xa, .int .i64 r.xb, .int .i64 r.ya, .int .i64 r.yb, nv] 28)).alloc (.cells #[fv] 81)).alloc (.cells #[.int .i64 0] 30)) r nv fv 0 := by
  refine ⟨hpA (hpA (heap_alloc_last w _) _) _, hpA ?_ _, ?_, by repeat (first | exact Below.refl _ _ | apply bel_alloc), by simp only [World.size_alloc]; omega⟩
  · have h := heap_alloc_last (w.alloc (.cells #[.int .i64 r.xa, .int .i64 r.xb, .int .i64 r.ya, .int .i64 r.yb, nv] 28)) (.cells #[fv] 81)
    rw [World.size_alloc] at h
    exact h
  · have h := heap_alloc_last ((w.alloc (.cells #[.int .i64 r.xa, .int .i64 r.xb, .int .i64 r.ya, .int .i64 r.yb, nv] 28)).alloc (.cells #[fv] 81)) (.cells #[.int .i64 0] 30)
    simp only [World.size_alloc] at h
    exact h
theorem ChkSt.grown (h : ChkSt w W r nv fv e) (hg : W.grownBy W' row) (hr : ∀ b, row = some b → w.heap.size + 1 + 1 < b) : ChkSt w W' r nv fv e := by
  obtain ⟨h1, h2, h3, h4, h5⟩ := h
  have k : ∀ b, b ≤ w.heap.size + 1 + 1 → W'.heap[b]? = W.heap[b]? := fun b hb => hg.block b (by omega) (fun e => by have := hr b e.symm; omega)
  exact ⟨(k _ (by omega)).trans h1, (k _ (by omega)).trans h2, (k _ (by omega)).trans h3, h4.grown hg (by omega) (fun b e => by have := hr b e; omega), Nat.lt_of_lt_of_le h5 hg.size⟩
theorem ChkSt.call (h : ChkSt w W r nv fv e) (hb : Below W.heap.size W W') : ChkSt w W' r nv fv e := h.grown (row := none) ⟨hb.os, hb.tape, hb.output, hb.size, fun k hk _ => hb.block k hk⟩ nofun
theorem ChkSt.alloc (h : ChkSt w W r nv fv e) (o : Obj) : ChkSt w (W.alloc o) r nv fv e := h.grown (World.grownBy_alloc W o none) nofun
theorem ChkSt.set (h : ChkSt w W r nv fv e) (e' : Int) : ChkSt w (W.setCell ⟨w.heap.size + 1 + 1, 0, none⟩ (.int .i64 e')) r nv fv e' := by
  obtain ⟨h1, h2, h3, h4, h5⟩ := h
  refine ⟨(Below.heap_setCell _ _ _ _ (by simp only; omega)).trans h1, (Below.heap_setCell _ _ _ _ (by simp only; omega)).trans h2, ?_, h4.setCell (p := ⟨w.heap.size + 1 + 1, 0, none⟩) (by simp only; omega) _, by simpa [World.setCell] using h5⟩
  rw [setCell_eq_setRow _ _ _ _ _ _ _ h3, setRow_heap _ _ _ _ _ _ h3]
  rfl
theorem ChkSt.retM (h : ChkSt w W r nv fv e) {D : Nat} (hK : W.heap[D]? = some (.deferred (some []))) (hD : w.heap.size + 1 + 1 < D) {tmps : Array Value} (hp : tmps.getD 6 undef = .pointer (some ⟨w.heap.size + 1 + 1, 0, none⟩)) :
    bodyPostM Fence.wide 5 Tryd.prog Tryd.f41 (IntB e w) .ret { tmps := tmps, defers := [{ target := .collected D, args := #[] }] } W := by
  refine ⟨by simp, .inl ⟨_, _, rfl, run_takeDeferred hK, ?_⟩⟩
  have h' := h.grown (grownBy_putObj' W D (.deferred none)) (fun b e => by injection e with e; omega)
  exact ⟨.int .i64 e, en_res Tryd.results41 _ _ (w.heap.size + 1 + 1) e hp (cell_of_box h'.2.2.1 rfl), rfl, h'.2.2.2.1⟩
theorem ChkSt.setM (h : ChkSt w W r nv fv e) {M : Nat} (hM : w.heap.size + 1 + 1 < M) (v : Value) : ChkSt w (W.setCell ⟨M, 0, none⟩ v) r nv fv e :=
  h.grown (row := some M) (by exact ⟨rfl, rfl, rfl, by simp [World.setCell], fun k hk hne => Below.heap_setCell _ _ _ _ (fun e => hne (by rw [e]))⟩) (fun b e => by injection e with e; omega)
theorem ChkSt.cells (h : ChkSt w W r nv fv e) : W.cell? ⟨w.heap.size, 0, none⟩ = some (.int .i64 r.xa) ∧ W.cell? ⟨w.heap.size, 1, none⟩ = some (.int .i64 r.xb) ∧ W.cell? ⟨w.heap.size, 2, none⟩ = some (.int .i64 r.ya) ∧ W.cell? ⟨w.heap.size, 3, none⟩ = some (.int .i64 r.yb) ∧ W.cell? ⟨w.heap.size, 4, none⟩ = some nv ∧
    W.cell? ⟨w.heap.size + 1, 0, none⟩ = some fv ∧ W.cell? ⟨w.heap.size + 1 + 1, 0, none⟩ = some (.int .i64 e) ∧ W.frozen? ⟨w.heap.size + 1 + 1, 0, none⟩ = false ∧ w.heap.size + 1 + 1 < W.heap.size := by
  obtain ⟨a0, a1, a2, a3, a4⟩ := cells5 h.1
  exact ⟨a0, a1, a2, a3, a4, cell_of_box h.2.1 rfl, cell_of_box h.2.2.1 rfl, frz h.2.2.1 0, h.2.2.2.2⟩
theorem ChkSt.ret (h : ChkSt w W r nv fv e) {a : Act} (hd : a.defers = []) (hp : a.tmps.getD 6 undef = .pointer (some ⟨w.heap.size + 1 + 1, 0, none⟩)) : bodyPost Tryd.prog Tryd.f41 (IntB e w) .ret a W :=
  bodyPost_ret (v := .int .i64 e) (en_res Tryd.results41 _ _ (w.heap.size + 1 + 1) e hp h.cells.2.2.2.2.2.2.1) hd ⟨rfl, h.2.2.2.1⟩
end

set_option maxRecDepth 100000 in
set_option maxHeartbeats 4000000 in
theorem check_any (g : FuncId) (lb : Array Value) (board : Rc → Int → Int) (r : Rc) (ns : List Nd) (nv : Value) (kerf : Int) (w : World) (heg : ∀ args W, (callFunc g args).run Tryd.prog W = .ok (.enter g args) W)
    (hboard : ∀ (x : Rc) (k : Int) (W : World), RcOk x → Below w.heap.size w W → Calls Tryd.prog g (#[rcV x, .int .i64 k] ++ lb) W (IntB (board x k) W)) (hns : RdNd w w.heap.size nv ns) :
    Calls Tryd.prog 41 #[.agg #[.int .i64 r.xa, .int .i64 r.xb, .int .i64 r.ya, .int .i64 r.yb, nv], .int .i64 kerf, .func (.func g) #[] lb] w (IntB (checkPt r ns kerf board) w) := by
  obtain ⟨A, c, rfl, hc, hml⟩ := hns.form
  unfold maxLen at hml
  obtain ⟨q, hq⟩ : ∃ q, checkPt r ns kerf board = q := ⟨_, rfl⟩
  rw [hq]
  unfold checkPt at hq
  have HQ := Lib.hid hq
  have HNS := Lib.hid hns
  have HBD := Lib.hid hboard
  have HEG := Lib.hid heg
  clear hq hns hboard heg
  obtain ⟨fr, hfr⟩ : ∃ fr, frameP r = fr := ⟨_, rfl⟩
  have HIF := Lib.hid (fun W => hfr ▸ isFrame_rc r W)
  have HS0 := Lib.hid (ChkSt.start w r (.slice A ns.length c) (.func (.func g) #[] lb))
  cases fr with
  | false =>
    have hz : q = 19 := by rw [← HQ.out, if_pos hfr]
    subst hz
    clear hfr HQ
    go_enter Tryd.func41, Tryd.ntmps41
    go_wp2_with fail
    refine (HIF.out _).mono ?_
    rintro e w1 ⟨he, hb1⟩
    subst he
    have HS1 := Lib.hid (HS0.out.call hb1)
    obtain ⟨c0, c1, c2, c3, c4, c5, c6, c7, c8⟩ := HS1.out.cells
    clear hb1
    go_wp2_with fail
    exact (HS1.out.set 19).ret rfl rfl
  | true =>
    have HQ1 := Lib.hid (show (if kerf < 0 ∨ 20 < kerf then (9 : Int) else if 127 < ns.length then 4 else chkL kerf board ns [⟨r, 1⟩]) = q by
      have h := HQ.out
      rw [if_neg (by rw [hfr]; decide)] at h
      exact h)
    have HRF := Lib.hid (frame_ok hfr)
    clear hfr HQ
    by_cases k0 : kerf < 0
    · have hz : q = 9 := by rw [← HQ1.out, if_pos (.inl k0)]
      subst hz
      clear HQ1
      go_enter Tryd.func41, Tryd.ntmps41
      go_wp2_with fail
      refine (HIF.out _).mono ?_
      rintro e w1 ⟨he, hb1⟩
      subst he
      have HS1 := Lib.hid (HS0.out.call hb1)
      obtain ⟨c0, c1, c2, c3, c4, c5, c6, c7, c8⟩ := HS1.out.cells
      clear hb1
      go_wp2_with fail
      exact (HS1.out.set 9).ret rfl rfl
    by_cases k20 : 20 < kerf
    · have hz : q = 9 := by rw [← HQ1.out, if_pos (.inr k20)]
      subst hz
      clear HQ1
      go_enter Tryd.func41, Tryd.ntmps41
      go_wp2_with fail
      refine (HIF.out _).mono ?_
      rintro e w1 ⟨he, hb1⟩
      subst he
      have HS1 := Lib.hid (HS0.out.call hb1)
      obtain ⟨c0, c1, c2, c3, c4, c5, c6, c7, c8⟩ := HS1.out.cells
      clear hb1
      go_wp2_with fail
      exact (HS1.out.set 9).ret rfl rfl
    by_cases l127 : 127 < ns.length
    · have hz : q = 4 := by
        have h := HQ1.out
        rw [if_neg (by omega), if_pos l127] at h
        exact h.symm
      subst hz
      clear HQ1
      go_enter Tryd.func41, Tryd.ntmps41
      go_wp2_with fail
      refine (HIF.out _).mono ?_
      rintro e w1 ⟨he, hb1⟩
      subst he
      have HS1 := Lib.hid (HS0.out.call hb1)
      obtain ⟨c0, c1, c2, c3, c4, c5, c6, c7, c8⟩ := HS1.out.cells
      clear hb1
      go_wp2_with fail
      exact (HS1.out.set 4).ret rfl rfl
    have HQ2 := Lib.hid (show chkL kerf board ns [⟨r, 1⟩] = q by
      have h := HQ1.out
      rw [if_neg (by omega), if_neg l127] at h
      exact h)
    clear HQ1
    have hl127 : ns.length ≤ 127 := by omega
    refine (callsIn_wide (n := 5)).1 ?_
    refine callsIn_of_wp_marks Tryd.func41 rfl trivial ?_ rfl
    simp only [Tryd.ntmps41, List.size_toArray, List.length_cons, List.length_nil, Nat.reduceAdd, Nat.reduceSub, Array.replicate_succ, Array.replicate_zero, List.push_toArray, List.append_toArray, List.nil_append, List.cons_append]
    gi_wp2
    refine ⟨trivial, (callsIn_wide.2 (HIF.out _)).mono ?_⟩
    rintro e w1 ⟨he, hb1⟩
    subst he
    have HS1 := Lib.hid (HS0.out.call hb1)
    obtain ⟨M, hM⟩ : ∃ M, w1.heap.size = M := ⟨_, rfl⟩
    obtain ⟨c0, c1, c2, c3, c4, c5, c6, c7, c8⟩ := HS1.out.cells
    rw [hM] at c8
    obtain ⟨W0, hW0⟩ : ∃ W0, ((w1.alloc (.cells #[.int .i64 0] 3)).alloc (.cells #[.int .i64 r.xa, .int .i64 r.xb, .int .i64 r.ya, .int .i64 r.yb, .slice A ns.length c] 28)).alloc (.cells #[.int .i64 kerf] 3) = W0 := ⟨_, rfl⟩
    have hN0 : w.heap.size < M := by omega
    have hN1 : w.heap.size + 1 < M := by omega
    clear hb1 HS0
    gi_wp2
    refine ⟨trivial, (places_in _ r (.slice A ns.length c) rfl kerf _).mono ?_⟩
    rintro e w2 ⟨he, hw2⟩
    rw [World.size_alloc, hM] at he
    rw [hW0] at hw2
    subst he hw2
    gi_wp2
    have hs2 : w2.heap.size = M + 1 + 1 + 1 := by rw [← hW0]; simp only [World.size_alloc]; rw [hM]
    have hb12 : Below w1.heap.size w1 w2 := by rw [← hW0]; repeat (first | exact Below.refl _ _ | apply bel_alloc)
    have hS2 := HS1.out.call hb12
    have hm2 : w2.heap[M]? = some (.cells #[.int .i64 0] 3 (0, 0)) := by rw [← hW0, ← hM]; exact hpA (hpA (heap_alloc_last w1 _) _) _
    have hp2 : PatAt w2 (M + 1) r (.slice A ns.length c) := by
      rw [← hW0, ← hM]
      have h := heap_alloc_last (w1.alloc (.cells #[.int .i64 0] 3)) (.cells #[.int .i64 r.xa, .int .i64 r.xb, .int .i64 r.ya, .int .i64 r.yb, .slice A ns.length c] 28)
      rw [World.size_alloc] at h
      exact hpA h _
    have hk2 : w2.heap[M + 1 + 1]? = some (.cells #[.int .i64 kerf] 3 (0, 0)) := by
      rw [← hW0, ← hM]
      have h := heap_alloc_last ((w1.alloc (.cells #[.int .i64 0] 3)).alloc (.cells #[.int .i64 r.xa, .int .i64 r.xb, .int .i64 r.ya, .int .i64 r.yb, .slice A ns.length c] 28)) (.cells #[.int .i64 kerf] 3)
      simp only [World.size_alloc] at h
      exact h
    have hkf : 0 ≤ kerf ∧ kerf ≤ 20 := by omega
    clear c0 c1 c2 c3 c4 c5 c6 c7 hb12 hW0 k0 k20 l127
    refine wpIn_rangeX rfl (by decide) (gf := 83) (lb := #[.pointer (some ⟨M + 1, 0, none⟩), .pointer (some ⟨M + 1 + 1, 0, none⟩)]) rfl trivial (enters_of Tryd.func83 (by kernel_rfl) rfl)
      (places_seq 4 w.heap.size (M + 1) (M + 1 + 1) (by decide) r ns (.slice A ns.length c) kerf w2 hp2 hk2 ⟨by omega, by omega, by omega⟩ (HNS.out.below hS2.2.2.2.1) hl127) (by omega) (fun b hb => by rcases hb with rfl | rfl <;> omega) (Below.refl _ _) (fun _ => rfl)
      (fun pre X W => PassP board ns pre ∧ ChkSt w W r (.slice A ns.length c) (.func (.func g) #[] lb) 0 ∧ W.heap[M]? = some (.cells #[.int .i64 pre.length] 3 (0, 0)) ∧ (∀ b, X b → M < b))
      (fun cd _ W => cd = .ret ∧ ChkSt w W r (.slice A ns.length c) (.func (.func g) #[] lb) q) ?hI ?hIx ⟨PassP.nil _ _, hS2, hm2, fun b hb => by rcases hb with rfl | rfl <;> omega⟩
      (fun x a' W => ∃ Bx, M < Bx ∧ W.heap[Bx]? = some (.cells #[.int .i64 x.2.rect.xa, .int .i64 x.2.rect.xb, .int .i64 x.2.rect.ya, .int .i64 x.2.rect.yb, .int .i64 x.2.level] 88 (0, 0)) ∧ a' = { tmps := #[.agg #[.int .i64 r.xa, .int .i64 r.xb, .int .i64 r.ya, .int .i64 r.yb, .slice A ns.length c], .int .i64 kerf, .func (.func g) #[] lb, .pointer (some ⟨w.heap.size, 0, none⟩), undef, .pointer (some ⟨w.heap.size + 1, 0, none⟩), .pointer (some ⟨w.heap.size + 1 + 1, 0, none⟩), .pointer (some ⟨M, 0, none⟩), .int .i64 x.1, .pointer (some ⟨Bx, 0, none⟩), undef, undef, .pointer (some ⟨w.heap.size, 0, none⟩), .agg #[.int .i64 r.xa, .int .i64 r.xb, .int .i64 r.ya, .int .i64 r.yb], .bool true, .bool false, .int .i64 kerf, .bool (decide (kerf < 0)), .bool (decide (kerf < 0)), .int .i64 kerf, .bool (decide (20 < kerf)), .bool (decide (kerf < 0) || decide (20 < kerf)), .pointer (some ⟨w.heap.size, 4, none⟩), .slice A ns.length c, .int .i64 ns.length, .bool (decide (127 < (ns.length : Int))), .agg #[.int .i64 r.xa, .int .i64 r.xb, .int .i64 r.ya, .int .i64 r.yb, .slice A ns.length c], .int .i64 kerf, .func (.func 83) #[] #[.pointer (some ⟨M + 1, 0, none⟩), .pointer (some ⟨M + 1 + 1, 0, none⟩)], .int .i64 x.1, .agg #[.int .i64 x.2.rect.xa, .int .i64 x.2.rect.xb, .int .i64 x.2.rect.ya, .int .i64 x.2.rect.yb, .int .i64 x.2.level], undef, undef, undef, undef, undef, undef, undef, undef, undef, undef, undef, undef, undef, undef, undef, undef, undef, undef, undef, undef, undef, undef, undef, undef, undef, undef, undef, undef, undef, undef, undef, undef, undef, undef, undef, undef], defers := [] }) ?hAx ?assign ?body ?done ?stop
    case hI =>
      rintro pre X X' W W' row ⟨h1, h2, h3, h4⟩ hg hrow hX'
      have hr : ∀ b, row = some b → M < b := fun b e => (hrow b e).elim (h4 b) (fun h => by omega)
      have hml := (Array.getElem?_eq_some_iff.1 h3).1
      exact ⟨h1, h2.grown hg (fun b e => by have := hr b e; omega), (hg.block M hml (fun e => by have := hr M e.symm; omega)).trans h3, fun b hb => (hX' b hb).elim (h4 b) (fun h => by omega)⟩
    case hIx =>
      rintro cd pre W W' row ⟨h1, h2⟩ hg hr
      exact ⟨h1, h2.grown hg (fun b e => by have := (hr b e).1; omega)⟩
    case hAx =>
      rintro x a' W l o o' ⟨Bx, h1, h2, h3⟩ hl ho hoc
      refine ⟨Bx, h1, (World.putObj_heap_other ?_).trans h2, h3⟩
      rintro rfl
      rw [h2] at ho
      injection ho with ho
      subst ho
      cases hoc
    case assign =>
      rintro l pre X x W ⟨h1, h2, h3, h4⟩ hX ⟨rest, hL⟩ hsz
      simp only [plV]
      gi_wp2
      exact ⟨World.grownBy_alloc W _ none, W.heap.size, by omega, heap_alloc_last W _, rfl⟩
    case body =>
      rintro l pre X x a' W ⟨h1, h2, h3, h4⟩ ⟨Bx, hBx, hbx, rfl⟩ hX ⟨rest, hL⟩ hsz
      obtain ⟨i, p⟩ := x
      obtain ⟨j1, j2, j3, j4⟩ := round_at hkf ns [⟨r, 1⟩] 0 i pre p rest (fun y hy => by simp only [List.mem_singleton] at hy; subst hy; exact HRF.out) hL h1
      rw [Nat.zero_add] at j1
      subst j1
      rw [HQ2.out] at j3 j4
      have HP1 := Lib.hid h1
      have HC2 := Lib.hid h2
      have HM3 := Lib.hid h3
      have HX4 := Lib.hid h4
      have HPX := Lib.hid hbx
      have HXL := Lib.hid hX
      have HR2 := Lib.hid j2
      have hmW : M < W.heap.size := (Array.getElem?_eq_some_iff.1 h3).1
      have hBxW : Bx < W.heap.size := (Array.getElem?_eq_some_iff.1 hbx).1
      obtain ⟨c0, c1, c2, c3, c4, c5, c6, c7, c9⟩ := h2.cells
      obtain ⟨x0, x1, x2, x3, x4⟩ := cells5 hbx
      clear h1 h2 h3 h4 hbx hX hL
      by_cases hlt : pre.length < ns.length
      · have hn : ns[pre.length]? = some ns[pre.length] := List.getElem?_eq_getElem hlt
        obtain ⟨n, hne⟩ : ∃ n, ns[pre.length] = n := ⟨_, rfl⟩
        rw [hne] at hn
        have HJ4 := Lib.hid (j4 n hn)
        have HN := Lib.hid hn
        obtain ⟨bn, on, hA, hbn, d0, d1⟩ := RdNd.at_ (HNS.out.below HC2.out.2.2.2.1) hn
        subst hA
        clear j2 j3 j4 hne hn
        gi_wp2
        refine ⟨trivial, (CallsIn.inRound l (callsIn_wide.2 (checkNode_any n p _))).mono ?_⟩
        rintro e w5 ⟨he, hb5⟩
        obtain ⟨e1, he1⟩ : ∃ e1, nodeErr n p = e1 := ⟨_, rfl⟩
        rw [he1] at he
        subst he
        have hsz5 := hb5.size
        rw [World.size_alloc] at hsz5
        have hkp : ∀ b, b < W.heap.size → w5.heap[b]? = W.heap[b]? := fun b hb => (hb5.block b (by rw [World.size_alloc]; omega)).trans (Below.heap_alloc _ _ _ hb)
        have HC5 := Lib.hid ((HC2.out.alloc (.cells #[.int .i64 n.kind, .int .i64 n.pos] 64)).call hb5)
        have HM5 := Lib.hid ((hkp M hmW).trans HM3.out)
        obtain ⟨x0, x1, x2, x3, x4⟩ := cells5 ((hkp Bx hBxW).trans HPX.out)
        obtain ⟨y0, y1⟩ := cells2 ((hb5.block W.heap.size (by rw [World.size_alloc]; omega)).trans (heap_alloc_last W _))
        obtain ⟨c0, c1, c2, c3, c4, c5, c6, c7, c9⟩ := HC5.out.cells
        have hmc : w5.cell? ⟨M, 0, none⟩ = some (.int .i64 pre.length) := cell_of_box HM5.out rfl
        have hmf : w5.frozen? ⟨M, 0, none⟩ = false := frz HM5.out 0
        have HW5 := Lib.hid (show KeepX w.heap.size X W w5 ∧ KeepsOthers W w5 from ⟨⟨((Below.refl w.heap.size W).alloc (by omega) _).trans (hb5.mono (by rw [World.size_alloc]; omega)), fun b hb => hkp b (HXL.out b hb)⟩, (KeepsOthers.alloc _ _).trans (KeepsOthers.of_grownBy (row := none) ⟨hb5.os, hb5.tape, hb5.output, hb5.size, fun k hk _ => hb5.block k hk⟩ nofun)⟩)
        clear hb5 hkp
        by_cases hez : e1 = 0
        · subst hez
          by_cases hk1 : n.kind = 1
          · have hkb : (n.kind == 1) = true := by rw [beq_iff_eq]; exact hk1
            have HF := Lib.hid (show fullErr board n p = board p.rect n.pos by rw [fullErr, if_pos ⟨he1, hk1⟩])
            have heg := HEG.out
            clear he1 hk1
            gi_wp2
            refine ⟨trivial, (CallsIn.inRound l (callsIn_wide.2 (HBD.out p.rect n.pos w5 HR2.out HC5.out.2.2.2.1))).mono ?_⟩
            rintro e w6 ⟨he, hb6⟩
            obtain ⟨e2, he2⟩ : ∃ e2, board p.rect n.pos = e2 := ⟨_, rfl⟩
            rw [he2] at he HF
            subst he
            have hsz6 := hb6.size
            have HC6 := Lib.hid (HC5.out.call hb6)
            have HM6 := Lib.hid ((hb6.block M (by omega)).trans HM5.out)
            have HW6 := Lib.hid (show KeepX w.heap.size X W w6 ∧ KeepsOthers W w6 from ⟨⟨HW5.out.1.1.trans (hb6.mono (by omega)), fun b hb => (hb6.block b (by have := HXL.out b hb; omega)).trans (HW5.out.1.2 b hb)⟩, HW5.out.2.trans (KeepsOthers.of_grownBy (row := none) ⟨hb6.os, hb6.tape, hb6.output, hb6.size, fun k hk _ => hb6.block k hk⟩ nofun)⟩)
            clear hmc hmf c0 c1 c2 c3 c4 c5 c6 c7 c9 x0 x1 x2 x3 x4 y0 y1 hb6 heg
            obtain ⟨c0, c1, c2, c3, c4, c5, c6, c7, c9⟩ := HC6.out.cells
            have hmc : w6.cell? ⟨M, 0, none⟩ = some (.int .i64 pre.length) := cell_of_box HM6.out rfl
            have hmf : w6.frozen? ⟨M, 0, none⟩ = false := frz HM6.out 0
            by_cases hez : e2 = 0
            · subst hez
              clear he2
              gi_wp2
              exact ⟨HW6.out.2.trans (KeepsOthers.setCell _ _ _), HW6.out.1.trans (setX HX4.out (by omega)), HP1.out.snoc HN.out HF.out, HC6.out.setM (by omega) _, boxSet HM6.out _ (by simp), HX4.out⟩
            · have heb : (e2 != 0) = true := by rw [bne_iff_ne]; exact hez
              have hz : q = e2 := by
                have := HJ4.out
                rw [HF.out] at this
                exact this hez
              subst hz
              clear he2 hez
              gi_wp2
              exact ⟨HW6.out.2.trans (KeepsOthers.setCell _ _ _), rfl, HC6.out.set q⟩
          · have hkb : (n.kind == 1) = false := by rw [beq_eq_false_iff_ne]; exact hk1
            have HF := Lib.hid (show fullErr board n p = 0 by rw [fullErr, if_neg (fun h => hk1 h.2), he1])
            clear he1 hk1
            gi_wp2
            exact ⟨HW5.out.2.trans (KeepsOthers.setCell _ _ _), HW5.out.1.trans (setX HX4.out (by omega)), HP1.out.snoc HN.out HF.out, HC5.out.setM (by omega) _, boxSet HM5.out _ (by simp), HX4.out⟩
        · have heb : (e1 != 0) = true := by rw [bne_iff_ne]; exact hez
          have heb2 : (e1 == 0) = false := by rw [beq_eq_false_iff_ne]; exact hez
          have hz : q = e1 := by
            have hfe : fullErr board n p = e1 := by rw [fullErr, if_neg (fun h => hez (he1 ▸ h.1)), he1]
            have := HJ4.out
            rw [hfe] at this
            exact this hez
          subst hz
          clear he1 hez
          gi_wp2
          exact ⟨HW5.out.2.trans (KeepsOthers.setCell _ _ _), rfl, HC5.out.set q⟩
      · have hz : q = 3 := j3 (List.getElem?_eq_none (by omega))
        subst hz
        clear j2 j3 j4
        gi_wp2
        exact ⟨KeepsOthers.setCell _ _ _, rfl, HC2.out.set 3⟩
    case done =>
      rintro D X W hD ⟨h1, h2, h3, h4⟩ hK
      obtain ⟨i1, i2⟩ := round_end ns [⟨r, 1⟩] 0 h1
      rw [HQ2.out] at i2
      rw [ixs_length] at h3
      obtain ⟨m, hm⟩ : ∃ m, (plsP kerf ns [⟨r, 1⟩]).length = m := ⟨_, rfl⟩
      rw [hm] at i1 i2 h3
      have HC := Lib.hid h2
      have HK := Lib.hid hK
      obtain ⟨c0, c1, c2, c3, c4, c5, c6, c7, c9⟩ := h2.cells
      have hmc : W.cell? ⟨M, 0, none⟩ = some (.int .i64 m) := cell_of_box h3 rfl
      clear h1 h2 h3 h4 hm hK
      by_cases hlt : m < ns.length
      · have hz : q = 4 := by rw [i2, if_pos hlt]
        subst hz
        clear i2
        gi_wp2
        exact (HC.out.set 4).retM ((KeepsOthers.setCell W _ _).same D _ HK.out rfl) (by omega) rfl
      · have hz : q = 0 := by rw [i2, if_neg hlt]
        subst hz
        clear i2
        gi_wp2
        exact (HC.out.set 0).retM ((KeepsOthers.setCell W _ _).same D _ HK.out rfl) (by omega) rfl
    case stop =>
      rintro D cd pre W hD hpre ⟨rfl, h2⟩ hK
      gi_wp2
      exact h2.retM hK (by omega) rfl
end Go.Proofs.YtbmcfodhjibooaaDoor
