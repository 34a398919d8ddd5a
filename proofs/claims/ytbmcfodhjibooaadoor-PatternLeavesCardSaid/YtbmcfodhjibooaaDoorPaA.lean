/-
  The contracts of the small functions of package pattern: isFrame, isRip, along, with, parts, checkNode, anyBoard.
-/
import Derived.Test.YtbmcfodhjibooaaDoorBase
import Derived.Test.YtbmcfodhjibooaaDoorBig
import Derived.Test.YtbmcfodhjibooaaDoorPaP
import Derived.BigRegion
import Derived.BigQuiet
import Derived.Deep.QuietTactic
import Derived.Deep.RegionWith
import Derived.LoopN
namespace Go.Proofs.YtbmcfodhjibooaaDoor
open Go.RowKit Saw

def BoolB (b : Bool) (w : World) (e : Ending) (w' : World) : Prop := e = .returned (.bool b) ∧ Below w.heap.size w w'
def IntB (n : Int) (w : World) (e : Ending) (w' : World) : Prop := e = .returned (.int .i64 n) ∧ Below w.heap.size w w'
theorem bel_alloc {w W : World} {ob : Obj} (h : Below w.heap.size w W) : Below w.heap.size w (W.alloc ob) := h.alloc h.size ob
theorem bel_call {w W W' : World} (h : Below w.heap.size w W) (h2 : Below W.heap.size W W') : Below w.heap.size w W' := h.trans (h2.mono h.size)
theorem cell_of_box {w : World} {N j : Nat} {cs : Array Value} {t : TypeId} {v : Value} (h : w.heap[N]? = some (.cells cs t (0, 0))) (hv : cs[j]? = some v) : w.cell? ⟨N, j, none⟩ = some v := by
  rw [cell_of_row w N j cs t (0, 0) h]; exact hv
theorem below_drewNn {B : Nat} {w w' : World} (h : Below B w w') (n : Nat) : Below B w (w'.drewN n) := ⟨h.os, h.tape, h.output, h.size, h.block⟩
theorem hpA {w : World} {g : Nat} {o : Obj} (h : w.heap[g]? = some o) (o' : Obj) : (w.alloc o').heap[g]? = some o := (Below.heap_alloc _ _ _ (Array.getElem?_eq_some_iff.1 h).1).trans h

def rcV (r : Rc) : Value := .agg #[.int .i64 r.xa, .int .i64 r.xb, .int .i64 r.ya, .int .i64 r.yb]
def ndV (n : Nd) : Value := .agg #[.int .i64 n.kind, .int .i64 n.pos]
def plV (x : Plc) : Value := .agg #[.int .i64 x.rect.xa, .int .i64 x.rect.xb, .int .i64 x.rect.ya, .int .i64 x.rect.yb, .int .i64 x.level]

set_option maxHeartbeats 400000 in
theorem isRip_any (k : Int) (w : World) : Calls Tryd.prog 48 #[.int .i64 k] w fun e w' => e = .returned (.bool (ripP k)) ∧ w' = w := by
  unfold ripP
  obtain ⟨p, hp⟩ : ∃ p, (k == 2) = p := ⟨_, rfl⟩
  rw [hp]
  cases p with
  | true =>
    go_enter Tryd.func48, Tryd.ntmps48
    go_wp2_with fail
    go_ret
    exact ⟨rfl, rfl⟩
  | false =>
    go_enter Tryd.func48, Tryd.ntmps48
    go_wp2_with fail
    go_ret
    exact ⟨rfl, rfl⟩

theorem span_ix0 (a b c d : Int) (W : World) : (Instr.index 133 (.agg #[.int .i64 a, .int .i64 b, .int .i64 c, .int .i64 d]) (.int .i64 0)).run Tryd.prog W = .ok (.agg #[.int .i64 a, .int .i64 b]) W := by kernel_rfl
theorem span_ix1 (a b c d : Int) (W : World) : (Instr.index 133 (.agg #[.int .i64 a, .int .i64 b, .int .i64 c, .int .i64 d]) (.int .i64 1)).run Tryd.prog W = .ok (.agg #[.int .i64 c, .int .i64 d]) W := by kernel_rfl
set_option maxRecDepth 100000 in
set_option maxHeartbeats 1000000 in
theorem isFrame_any (r : Rc) (w : World) : Calls Tryd.prog 51 #[.agg #[.int .i64 r.xa, .int .i64 r.xb, .int .i64 r.ya, .int .i64 r.yb]] w (BoolB (frameP r) w) := by
  obtain ⟨a, b, c, d⟩ := r
  obtain ⟨q, hq⟩ : ∃ q, frameP ⟨a, b, c, d⟩ = q := ⟨_, rfl⟩
  rw [hq]
  unfold frameP at hq
  have HQ := Lib.hid hq
  clear hq
  go_enter Tryd.func51, Tryd.ntmps51
  go_wp2_with fail
  have x0 := span_ix0
  have x1 := span_ix1
  refine wp_loop_rounds 3 ?_
  rw [rounds_succ]
  go_wp2
  all_goals (try rw [rounds_succ])
  all_goals (try go_wp2)
  all_goals (try rw [rounds_succ])
  all_goals (try go_wp2)
  all_goals go_ret
  all_goals refine ⟨ret_bool ?_, by repeat (first | exact Below.refl _ _ | apply bel_alloc)⟩
  all_goals
    rw [← HQ.out]
    simp_all
    try omega

def rcCells (r : Rc) : List Value := [.int .i64 r.xa, .int .i64 r.xb, .int .i64 r.ya, .int .i64 r.yb]
theorem rc_info : (Tryd.prog.info? 25).map (·.size) = some 4 := by kernel_rfl
theorem sp_info : (Tryd.prog.info? 23).map (·.size) = some 2 := by kernel_rfl
theorem rc_res {fn : Func} {p : Tmp} (h : fn.results = #[.cell p 25]) (tmps : Array Value) (W : World) (g : Nat) (r : Rc) (hp : tmps.getD p undef = .pointer (some ⟨g, 0, none⟩)) {t : TypeId} {fr : Nat × Nat} (hg : W.heap[g]? = some (.cells #[.int .i64 r.xa, .int .i64 r.xb, .int .i64 r.ya, .int .i64 r.yb] t fr)) :
    (results fn tmps).run Tryd.prog W = .ok (rcV r) W := results_cell1 h tmps W g 0 (rcCells r) hp (rangeAt_block hg) Tryd.underlying25 rfl rc_info
theorem sp_res {fn : Func} {p : Tmp} (h : fn.results = #[.cell p 23]) (tmps : Array Value) (W : World) (g : Nat) (a b : Int) (hp : tmps.getD p undef = .pointer (some ⟨g, 0, none⟩)) {t : TypeId} {fr : Nat × Nat} (hg : W.heap[g]? = some (.cells #[.int .i64 a, .int .i64 b] t fr)) :
    (results fn tmps).run Tryd.prog W = .ok (.agg #[.int .i64 a, .int .i64 b]) W := results_cell1 h tmps W g 0 [.int .i64 a, .int .i64 b] hp (rangeAt_block hg) Tryd.underlying23 rfl sp_info

set_option maxRecDepth 100000 in
set_option maxHeartbeats 1000000 in
theorem along_any (r : Rc) (k : Int) (w : World) : Calls Tryd.prog 53 #[.agg #[.int .i64 r.xa, .int .i64 r.xb, .int .i64 r.ya, .int .i64 r.yb], .int .i64 k] w fun e w' => e = .returned (.agg #[.int .i64 (lowP r k), .int .i64 (highP r k)]) ∧ Below w.heap.size w w' := by
  unfold lowP highP
  by_cases hk : k = 2
  · have hb : (k == 2) = true := by rw [beq_iff_eq]; exact hk
    rw [if_pos hk, if_pos hk]
    clear hk
    go_enter Tryd.func53, Tryd.ntmps53
    go_wp2
    refine bodyPost_ret (sp_res Tryd.results53 _ _ (w.heap.size + 1) r.xa r.xb rfl (by have h := heap_alloc_last (w.alloc (.cells #[.int .i64 r.xa, .int .i64 r.xb, .int .i64 r.ya, .int .i64 r.yb] 25)) (.cells #[.int .i64 r.xa, .int .i64 r.xb] 23); rw [World.size_alloc] at h; exact h)) rfl ⟨rfl, by repeat (first | exact Below.refl _ _ | apply bel_alloc)⟩
  · have hb : (k == 2) = false := by rw [beq_eq_false_iff_ne]; exact hk
    rw [if_neg hk, if_neg hk]
    clear hk
    go_enter Tryd.func53, Tryd.ntmps53
    go_wp2
    refine bodyPost_ret (sp_res Tryd.results53 _ _ (w.heap.size + 1) r.ya r.yb rfl (by have h := heap_alloc_last (w.alloc (.cells #[.int .i64 r.xa, .int .i64 r.xb, .int .i64 r.ya, .int .i64 r.yb] 25)) (.cells #[.int .i64 r.ya, .int .i64 r.yb] 23); rw [World.size_alloc] at h; exact h)) rfl ⟨rfl, by repeat (first | exact Below.refl _ _ | apply bel_alloc)⟩

set_option maxRecDepth 100000 in
set_option maxHeartbeats 1000000 in
theorem with_any (r : Rc) (k a b : Int) (w : World) : Calls Tryd.prog 84 #[.agg #[.int .i64 r.xa, .int .i64 r.xb, .int .i64 r.ya, .int .i64 r.yb], .int .i64 k, .agg #[.int .i64 a, .int .i64 b]] w fun e w' => e = .returned (rcV (withP r k a b)) ∧ Below w.heap.size w w' := by
  unfold withP
  by_cases hk : k = 2
  · have hb : (k == 2) = true := by rw [beq_iff_eq]; exact hk
    rw [if_pos hk]
    clear hk
    go_enter Tryd.func84, Tryd.ntmps84
    go_wp2
    refine bodyPost_ret (rc_res Tryd.results84 _ _ (w.heap.size + 1 + 1) ⟨a, b, r.ya, r.yb⟩ rfl (by
      have h := heap_alloc_last ((w.alloc (.cells #[.int .i64 a, .int .i64 b, .int .i64 r.ya, .int .i64 r.yb] 25)).alloc (.cells #[.int .i64 a, .int .i64 b] 23)) (.cells #[.int .i64 a, .int .i64 b, .int .i64 r.ya, .int .i64 r.yb] 25)
      rw [World.size_alloc, World.size_alloc] at h
      exact h)) rfl ⟨rfl, by repeat (first | exact Below.refl _ _ | apply bel_alloc)⟩
  · have hb : (k == 2) = false := by rw [beq_eq_false_iff_ne]; exact hk
    rw [if_neg hk]
    clear hk
    go_enter Tryd.func84, Tryd.ntmps84
    go_wp2
    refine bodyPost_ret (rc_res Tryd.results84 _ _ (w.heap.size + 1 + 1) ⟨r.xa, r.xb, a, b⟩ rfl (by
      have h := heap_alloc_last ((w.alloc (.cells #[.int .i64 r.xa, .int .i64 r.xb, .int .i64 a, .int .i64 b] 25)).alloc (.cells #[.int .i64 a, .int .i64 b] 23)) (.cells #[.int .i64 r.xa, .int .i64 r.xb, .int .i64 a, .int .i64 b] 25)
      rw [World.size_alloc, World.size_alloc] at h
      exact h)) rfl ⟨rfl, by repeat (first | exact Below.refl _ _ | apply bel_alloc)⟩

set_option maxHeartbeats 1000000 in
theorem anyBoard_any (r : Rc) (k : Int) (w : World) : Calls Tryd.prog 46 #[.agg #[.int .i64 r.xa, .int .i64 r.xb, .int .i64 r.ya, .int .i64 r.yb], .int .i64 k] w (IntB (anyB r k) w) := by
  obtain ⟨q, hq⟩ : ∃ q, anyB r k = q := ⟨_, rfl⟩
  rw [hq]
  unfold anyB at hq
  have HQ := Lib.hid hq
  clear hq
  go_enter Tryd.func46, Tryd.ntmps46
  go_wp2
  all_goals go_ret
  all_goals refine ⟨?_, by repeat (first | exact Below.refl _ _ | apply bel_alloc)⟩
  all_goals
    have hq := HQ.out
    simp_all
    try (rw [if_pos (by omega)] at hq; subst hq; rfl)
    try (rw [if_neg (by omega)] at hq; subst hq; rfl)

end Go.Proofs.YtbmcfodhjibooaaDoor
