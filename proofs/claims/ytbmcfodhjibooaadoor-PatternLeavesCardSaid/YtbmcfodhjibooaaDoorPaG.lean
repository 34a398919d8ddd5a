/-
  The contracts of pattern's Check, Leaves, Cuts.
-/
import Derived.Test.YtbmcfodhjibooaaDoorPaE
namespace Saw
theorem chk_ok {board : Rc → Int → Int} {kerf : Int} : ∀ (ns : List Nd) (st : List Plc) (k : Nat), chkL kerf board ns st = 0 → PassP board ns (ixs k (plsP kerf ns st)) ∧ (plsP kerf ns st).length = ns.length
  | [], [], _, _ => ⟨PassP.nil _ _, rfl⟩
  | n :: ns, [], _, h => by rw [chkL] at h; exact absurd h (by decide)
  | [], y :: st, k, h => by rw [chkL] at h; exact absurd h (by decide)
  | n :: ns, y :: st, k, h => by
    rw [chkL] at h
    by_cases hf : fullErr board n y ≠ 0
    · rw [if_pos hf] at h; exact absurd h hf
    · rw [if_neg hf] at h
      have hf := Decidable.not_not.1 hf
      obtain ⟨i1, i2⟩ := chk_ok ns (pushP kerf n y st) (k + 1) h
      refine ⟨fun j p hp => ?_, by rw [plsP, List.length_cons, List.length_cons, i2]⟩
      rw [plsP, ixs] at hp
      cases j with
      | zero =>
        simp only [List.getElem?_cons_zero, Option.some.injEq] at hp
        subst hp
        exact ⟨n, rfl, hf⟩
      | succ j =>
        simp only [List.getElem?_cons_succ] at hp ⊢
        exact i1 j p hp
def leafAt (ns : List Nd) (p : Nat × Plc) : List Lf := match ns[p.1]? with
  | none => []
  | some n => leafP n p.2
def cutAt (kerf : Int) (ns : List Nd) (p : Nat × Plc) : List Rc := match ns[p.1]? with
  | none => []
  | some n => cutP kerf n p.2
theorem leaves_acc {kerf : Int} (NS : List Nd) : ∀ (ns : List Nd) (st : List Plc) (k : Nat), NS.drop k = ns → (ixs k (plsP kerf ns st)).flatMap (leafAt NS) = leavesL kerf ns st ∧ (ixs k (plsP kerf ns st)).flatMap (cutAt kerf NS) = cutsL kerf ns st
  | ns, [], k, _ => by rw [plsP_nil]; cases ns <;> exact ⟨rfl, rfl⟩
  | [], y :: st, k, h => by
    have hn : NS[k]? = none := by
      rw [List.getElem?_eq_none_iff]
      exact Decidable.byContradiction fun hk => by rw [List.drop_eq_nil_iff] at h; omega
    rw [plsP, ixs, ixs, List.flatMap_cons, List.flatMap_nil, List.flatMap_cons, List.flatMap_nil, leafAt, cutAt, hn]
    exact ⟨rfl, rfl⟩
  | n :: ns, y :: st, k, h => by
    have hn : NS[k]? = some n := by
      have := congrArg (fun l => l[0]?) h
      rw [List.getElem?_drop] at this
      simpa using this
    have hd : NS.drop (k + 1) = ns := by rw [← List.tail_drop, h]; rfl
    obtain ⟨i1, i2⟩ := leaves_acc NS ns (pushP kerf n y st) (k + 1) hd
    rw [plsP, ixs, List.flatMap_cons, List.flatMap_cons, i1, i2, leafAt, cutAt, hn]
    exact ⟨rfl, rfl⟩
end Saw
namespace Go.Proofs.YtbmcfodhjibooaaDoor
open Go.RowKit Saw Go.Shelf
attribute [local go_sem] Oper.semAt_some

def lfCells (x : Lf) : List Value := [.int .i64 x.rect.xa, .int .i64 x.rect.xb, .int .i64 x.rect.ya, .int .i64 x.rect.yb, .int .i64 x.prod]
def lfsCells (l : List Lf) : List Value := l.flatMap lfCells
def rcsCells (l : List Rc) : List Value := l.flatMap rcCells
theorem lfsCells_snoc (l : List Lf) (x : Lf) : lfsCells (l ++ [x]) = lfsCells l ++ lfCells x := by simp [lfsCells]
theorem rcsCells_snoc (l : List Rc) (x : Rc) : rcsCells (l ++ [x]) = rcsCells l ++ rcCells x := by simp [rcsCells]
theorem lf_infoE : (Tryd.prog.info? 59).map (fun i => (i.zero, i.size, i.bytes)) = some (some (.agg #[.int .i64 0, .int .i64 0, .int .i64 0, .int .i64 0, .int .i64 0]), 5, 40) := by kernel_rfl
theorem rc_infoE : (Tryd.prog.info? 25).map (fun i => (i.zero, i.size, i.bytes)) = some (some (.agg #[.int .i64 0, .int .i64 0, .int .i64 0, .int .i64 0]), 4, 32) := by kernel_rfl
theorem lf_mem (x : Lf) : ∀ u ∈ lfCells x, u.oneCell' = true := by
  intro u hu
  simp only [lfCells, List.mem_cons, List.not_mem_nil, or_false] at hu
  rcases hu with rfl | rfl | rfl | rfl | rfl <;> rfl
theorem rc_mem (x : Rc) : ∀ u ∈ rcCells x, u.oneCell' = true := by
  intro u hu
  simp only [rcCells, List.mem_cons, List.not_mem_nil, or_false] at hu
  rcases hu with rfl | rfl | rfl | rfl <;> rfl

/-- A slice that grows in a box, while the iterator's blocks are X. -/
def ColAt (W : World) (M : Nat) (T e : TypeId) (size : Nat) (X : Nat → Prop) (v : Value) (n : Nat) (cs : List Value) : Prop :=
  W.heap[M]? = some (.cells #[v] T (0, 0)) ∧ W.ownsRow (M + 1) e size v n cs ∧ ∀ b, X b → M < b ∧ v.ownBlock ≠ some b
theorem own_at {W : World} {B : Nat} {e : TypeId} {size n g : Nat} {v : Value} {cs : List Value} (h : W.ownsRow B e size v n cs) (hg : v.ownBlock = some g) : B ≤ g ∧ ∃ cur, W.heap[g]? = some (.cells cur e (0, 0)) := by
  rcases h.2 with ⟨rfl, _⟩ | ⟨g', cap, cur, rfl, hb, hgg, _⟩
  · cases hg
  · have h2 : some g' = some g := hg
    injection h2 with h2
    subst h2
    exact ⟨hb, cur, hgg⟩
theorem ColAt.own {W W' : World} {M : Nat} {T e : TypeId} {size n : Nat} {X X' : Nat → Prop} {v : Value} {cs : List Value} {row : Option Nat} {B : Nat} (h : ColAt W M T e size X v n cs) (hg : W.grownBy W' row)
    (hrow : ∀ r, row = some r → X r ∨ (B ≤ r ∧ ∃ o : Obj, W.heap[r]? = some o ∧ o.isCells = false)) (hX' : ∀ b, X' b → X b ∨ W.heap.size ≤ b) : ColAt W' M T e size X' v n cs := by
  obtain ⟨h1, h2, h3⟩ := h
  have hlt := (Array.getElem?_eq_some_iff.1 h1).1
  have hrg : ∀ g, v.ownBlock = some g → row ≠ some g := fun g hgv er => by
    obtain ⟨_, cur, hc⟩ := own_at h2 hgv
    rcases hrow g er with h | ⟨_, o, ho, hoc⟩
    · exact (h3 g h).2 hgv
    · rw [hc] at ho; injection ho with ho; subst ho; cases hoc
  refine ⟨(hg.block M hlt (fun er => ?_)).trans h1, h2.kept hg ?_, fun b hb => ?_⟩
  · rcases hrow M er.symm with h | ⟨_, o, ho, hoc⟩
    · exact absurd (h3 M h).1 (by omega)
    · rw [h1] at ho; injection ho with ho; subst ho; cases hoc
  · cases hv : v.ownBlock with
    | none => exact .inl rfl
    | some g => exact .inr (fun e => hrg g hv e.symm)
  · rcases hX' b hb with h | h
    · exact h3 b h
    · refine ⟨by omega, fun e => ?_⟩
      obtain ⟨_, cur, hc⟩ := own_at h2 e
      have := (Array.getElem?_eq_some_iff.1 hc).1
      omega
theorem ColAt.put {W W' w7 : World} {M : Nat} {T e : TypeId} {size n m : Nat} {X : Nat → Prop} {v : Value} {cs ds : List Value} {g7 cap7 H n₀ : Nat} (hn₀ : n₀ ≤ M) (h : ColAt W M T e size X v n cs) (hXl : ∀ b, X b → b < W.heap.size) (hb : Below W.heap.size W W')
    (hgrow : W'.grownBy w7 v.ownBlock) (hown7 : w7.ownsRow (M + 1) e size (.slice (some ⟨g7, 0, none⟩) m cap7) m ds) (hat : v.ownBlock = some g7 ∨ g7 = H) (hH : W.heap.size ≤ H) :
    ColAt (w7.setCell ⟨M, 0, none⟩ (.slice (some ⟨g7, 0, none⟩) m cap7)) M T e size X (.slice (some ⟨g7, 0, none⟩) m cap7) m ds ∧ KeepX n₀ X W (w7.setCell ⟨M, 0, none⟩ (.slice (some ⟨g7, 0, none⟩) m cap7)) ∧ KeepsOthers W (w7.setCell ⟨M, 0, none⟩ (.slice (some ⟨g7, 0, none⟩) m cap7)) := by
  obtain ⟨h1, h2, h3⟩ := h
  have hlt := (Array.getElem?_eq_some_iff.1 h1).1
  have hg7 := (own_at hown7 (g := g7) rfl).1
  have hgr : ∀ b, b < W.heap.size → v.ownBlock ≠ some b → w7.heap[b]? = W.heap[b]? := fun b hb1 hb2 => (hgrow.block b (Nat.lt_of_lt_of_le hb1 hb.size) (fun e => hb2 e.symm)).trans (hb.block b hb1)
  have hMv : v.ownBlock ≠ some M := fun e => by have := (own_at h2 e).1; omega
  have hM7 : w7.heap[M]? = some (.cells #[v] T (0, 0)) := (hgr M hlt hMv).trans h1
  have hst : ∀ b, b ≠ M → (w7.setCell ⟨M, 0, none⟩ (.slice (some ⟨g7, 0, none⟩) m cap7)).heap[b]? = w7.heap[b]? := fun b hb => Below.heap_setCell _ _ _ _ hb
  refine ⟨⟨boxSet hM7 _ rfl, hown7.kept (row := some M) ⟨rfl, rfl, rfl, by simp [World.setCell], fun k hk hne => hst k (fun e => hne (by rw [e]))⟩ (.inr (fun e => by
      have h : some g7 = some M := e
      injection h with h
      omega)), fun b hb1 => ⟨(h3 b hb1).1, fun e => ?_⟩⟩, ⟨?_, fun b hb1 => ?_⟩, ?_⟩
  · have h : some g7 = some b := e
    injection h with h
    subst h
    rcases hat with h | h
    · exact (h3 _ hb1).2 h
    · have := hXl _ hb1
      omega
  · refine Below.setCell (p := ⟨M, 0, none⟩) ?_ hn₀ _
    refine ((Below.refl n₀ W).trans (hb.mono (by omega))).grown hgrow (by have := hb.size; omega) (fun k e => by have := (own_at h2 e).1; omega)
  · obtain ⟨q1, q2⟩ := h3 b hb1
    exact (hst b (by omega)).trans (hgr b (hXl b hb1) q2)
  · refine KeepsOthers.trans ?_ (KeepsOthers.setCell _ _ _)
    refine KeepsOthers.trans (KeepsOthers.of_grownBy (row := none) ⟨hb.os, hb.tape, hb.output, hb.size, fun k hk _ => hb.block k hk⟩ nofun) (KeepsOthers.of_grownBy hgrow fun j o ej hj => ?_)
    obtain ⟨_, cur, hc⟩ := own_at h2 ej
    rw [hb.block j (Array.getElem?_eq_some_iff.1 hc).1, hc] at hj
    injection hj with hj
    subst hj
    rfl

def LeavesPost (w : World) (p : List Lf × Int) (e : Ending) (w' : World) : Prop := ∃ v, e = .returned (.tuple #[v, .int .i64 p.2]) ∧ Rd w' w'.heap.size 5 v p.1.length (lfsCells p.1) ∧ Below w.heap.size w w'
def CutsPost (w : World) (p : List Rc × Int) (e : Ending) (w' : World) : Prop := ∃ v, e = .returned (.tuple #[v, .int .i64 p.2]) ∧ Rd w' w'.heap.size 4 v p.1.length (rcsCells p.1) ∧ Below w.heap.size w w'

set_option maxRecDepth 100000 in
set_option maxHeartbeats 1000000 in
theorem patCheck_any (r : Rc) (ns : List Nd) (nv : Value) (l : List Pr) (lv : Value) (kerf : Int) (w : World) (hns : RdNd w w.heap.size nv ns) (hl : RdPr w w.heap.size lv l) :
    Calls Tryd.prog 13 #[.agg #[.int .i64 r.xa, .int .i64 r.xb, .int .i64 r.ya, .int .i64 r.yb, nv], lv, .int .i64 kerf] w (IntB (checkPt r ns kerf (boardP l)) w) := by
  obtain ⟨A, c, rfl, hc, hml⟩ := hns.form
  obtain ⟨A1, c1, rfl, _, _⟩ := hl.form
  obtain ⟨q, hq⟩ : ∃ q, checkPt r ns kerf (boardP l) = q := ⟨_, rfl⟩
  obtain ⟨W0, hW0⟩ : ∃ W0, (w.alloc (.cells #[.int .i64 r.xa, .int .i64 r.xb, .int .i64 r.ya, .int .i64 r.yb, .slice A ns.length c] 28)).alloc (.cells #[.slice A1 l.length c1] 29) = W0 := ⟨_, rfl⟩
  have hs0 : W0.heap.size = w.heap.size + 1 + 1 := by rw [← hW0]; simp only [World.size_alloc]
  have hb0 : Below w.heap.size w W0 := by rw [← hW0]; repeat (first | exact Below.refl _ _ | apply bel_alloc)
  have hbx : W0.heap[w.heap.size + 1]? = some (.cells #[.slice A1 l.length c1] 29 (0, 0)) := by
    rw [← hW0]
    have h := heap_alloc_last (w.alloc (.cells #[.int .i64 r.xa, .int .i64 r.xb, .int .i64 r.ya, .int .i64 r.yb, .slice A ns.length c] 28)) (.cells #[.slice A1 l.length c1] 29)
    rw [World.size_alloc] at h
    exact h
  obtain ⟨p0, p1, p2, p3, p4⟩ := cells5 (show W0.heap[w.heap.size]? = some (.cells #[.int .i64 r.xa, .int .i64 r.xb, .int .i64 r.ya, .int .i64 r.yb, .slice A ns.length c] 28 (0, 0)) by rw [← hW0]; exact hpA (heap_alloc_last w _) _)
  have HCK := Lib.hid (check_any 42 #[.pointer (some ⟨w.heap.size + 1, 0, none⟩)] (boardP l) r ns (.slice A ns.length c) kerf W0 (fun args W => enters_of Tryd.func42 (by kernel_rfl) rfl args W)
    (fun x k W hx hb => boardFn_any l (.slice A1 l.length c1) x k W (w.heap.size + 1) (cell_of_box ((hb.block _ (by omega)).trans hbx) rfl) ((hl.next hb0).next hb) (by have := hb.size; omega) hx) (hns.next hb0))
  rw [hq] at HCK ⊢
  have HB := Lib.hid hb0
  clear hq hns hl hb0 hbx
  go_enter Tryd.func13, Tryd.ntmps13
  go_wp2_with fail
  refine HCK.out.mono ?_
  rintro e w1 ⟨he, hb1⟩
  subst he
  have HB1 := Lib.hid (HB.out.trans (hb1.mono (by omega)))
  clear hb1
  go_wp2_with fail
  go_ret
  exact ⟨rfl, HB1.out⟩

def LfCol (W : World) (M : Nat) (X : Nat → Prop) (v : Value) (l : List Lf) : Prop := ColAt W M 35 59 5 X v l.length (lfsCells l)
def RcCol (W : World) (M : Nat) (X : Nat → Prop) (v : Value) (l : List Rc) : Prop := ColAt W M 38 25 4 X v l.length (rcsCells l)
theorem flat_le {α β : Type} (f : α → List β) : ∀ (l : List α), (∀ x, (f x).length ≤ 1) → (l.flatMap f).length ≤ l.length
  | [], _ => Nat.le_refl _
  | x :: r, h => by
    have := flat_le f r h
    have := h x
    rw [List.flatMap_cons, List.length_append, List.length_cons]
    omega
theorem leafAt_len (ns : List Nd) (y : Nat × Plc) : (leafAt ns y).length ≤ 1 := by
  unfold leafAt leafP
  (repeat' split) <;> simp
theorem cutAt_len (kerf : Int) (ns : List Nd) (y : Nat × Plc) : (cutAt kerf ns y).length ≤ 1 := by
  unfold cutAt cutP
  (repeat' split) <;> simp
theorem own_heap {W' w7 : World} {v u : Value} {M B n size : Nat} {e T : TypeId} {cs : List Value} {W : World} (hg : W'.grownBy w7 v.ownBlock) (h : W.ownsRow B e size v n cs) (hM : W'.heap[M]? = some (.cells #[u] T (0, 0))) (hB : M < B) : w7.heap[M]? = some (.cells #[u] T (0, 0)) :=
  (hg.block M (Array.getElem?_eq_some_iff.1 hM).1 (fun e => by have := (own_at h e.symm).1; omega)).trans hM
theorem own_cell {W' w7 : World} {v u : Value} {M B n size : Nat} {e T : TypeId} {cs : List Value} {W : World} (hg : W'.grownBy w7 v.ownBlock) (h : W.ownsRow B e size v n cs) (hM : W'.heap[M]? = some (.cells #[u] T (0, 0))) (hB : M < B) : w7.cell? ⟨M, 0, none⟩ = some u := cell_of_box (own_heap hg h hM hB) rfl
theorem own_frz {W' w7 : World} {v u : Value} {M B n size : Nat} {e T : TypeId} {cs : List Value} {W : World} (hg : W'.grownBy w7 v.ownBlock) (h : W.ownsRow B e size v n cs) (hM : W'.heap[M]? = some (.cells #[u] T (0, 0))) (hB : M < B) : w7.frozen? ⟨M, 0, none⟩ = false := frz (own_heap hg h hM hB) 0

set_option maxRecDepth 100000 in
set_option maxHeartbeats 4000000 in
theorem leaves_any (r : Rc) (ns : List Nd) (nv : Value) (kerf : Int) (w : World) (hns : RdNd w w.heap.size nv ns) :
    Calls Tryd.prog 15 #[.agg #[.int .i64 r.xa, .int .i64 r.xb, .int .i64 r.ya, .int .i64 r.yb, nv], .int .i64 kerf] w (LeavesPost w (leavesP r ns kerf)) := by
  obtain ⟨A, c, rfl, hc, hml⟩ := hns.form
  unfold maxLen at hml
  obtain ⟨q, hq⟩ : ∃ q, checkPt r ns kerf anyB = q := ⟨_, rfl⟩
  have hres : leavesP r ns kerf = if q ≠ 0 then ([], q) else (leavesL kerf ns [⟨r, 1⟩], 0) := by rw [leavesP, hq]
  obtain ⟨R, hR⟩ : ∃ R, leavesP r ns kerf = R := ⟨_, rfl⟩
  rw [hR] at hres ⊢
  obtain ⟨W0, hW0⟩ : ∃ W0, (w.alloc (.cells #[.int .i64 r.xa, .int .i64 r.xb, .int .i64 r.ya, .int .i64 r.yb, .slice A ns.length c] 28)) = W0 := ⟨_, rfl⟩
  have hs0 : W0.heap.size = w.heap.size + 1 := by rw [← hW0]; simp only [World.size_alloc]
  have hb0 : Below w.heap.size w W0 := by rw [← hW0]; repeat (first | exact Below.refl _ _ | apply bel_alloc)
  have hp0 : PatAt W0 w.heap.size r (.slice A ns.length c) := by rw [← hW0]; exact heap_alloc_last w _
  have HCK := Lib.hid (check_any 46 #[] anyB r ns (.slice A ns.length c) kerf W0 (fun args W => enters_of Tryd.func46 (by kernel_rfl) rfl args W) (fun x k W _ _ => anyBoard_any x k W) (hns.next hb0))
  rw [hq] at HCK
  obtain ⟨p0, p1, p2, p3, p4⟩ := cells5 hp0
  have HNS := Lib.hid hns
  have HB0 := Lib.hid hb0
  have HP0 := Lib.hid hp0
  have HRES := Lib.hid hres
  have HQ := Lib.hid hq
  clear hns hb0 hp0 hres hq hR
  by_cases hqz : q = 0
  · subst hqz
    have HL := Lib.hid (show R = (leavesL kerf ns [⟨r, 1⟩], 0) by rw [HRES.out, if_neg (by simp)])
    have hchk : frameP r = true ∧ ¬ (kerf < 0 ∨ 20 < kerf) ∧ ¬ 127 < ns.length ∧ chkL kerf anyB ns [⟨r, 1⟩] = 0 := by
      have h := HQ.out
      unfold checkPt at h
      by_cases h1 : frameP r = false
      · rw [if_pos h1] at h; cases h
      · rw [if_neg h1] at h
        by_cases h2 : kerf < 0 ∨ 20 < kerf
        · rw [if_pos h2] at h; cases h
        · rw [if_neg h2] at h
          by_cases h3 : 127 < ns.length
          · rw [if_pos h3] at h; cases h
          · rw [if_neg h3] at h
            exact ⟨by simpa using h1, h2, h3, h⟩
    obtain ⟨hfr, hkf, hl127, hck⟩ := hchk
    have hkf : 0 ≤ kerf ∧ kerf ≤ 20 := by omega
    have hl127 : ns.length ≤ 127 := by omega
    obtain ⟨hps, hll⟩ := chk_ok ns [⟨r, 1⟩] 0 hck
    have HPS := Lib.hid hps
    have HLL := Lib.hid hll
    have HRF := Lib.hid (frame_ok hfr)
    clear hps hll hck hfr HQ HRES
    refine (callsIn_wide (n := 5)).1 ?_
    refine callsIn_of_wp_marks Tryd.func15 rfl trivial ?_ rfl
    simp only [Tryd.ntmps15, List.size_toArray, List.length_cons, List.length_nil, Nat.reduceAdd, Nat.reduceSub, Array.replicate_succ, Array.replicate_zero, List.push_toArray, List.append_toArray, List.nil_append, List.cons_append]
    gi_wp2
    refine ⟨trivial, (callsIn_wide.2 HCK.out).mono ?_⟩
    rintro e w1 ⟨he, hb1⟩
    subst he
    obtain ⟨M, hM⟩ : ∃ M, w1.heap.size = M := ⟨_, rfl⟩
    have hMs := hb1.size
    rw [hM, hs0] at hMs
    have HP1 := Lib.hid ((hb1.block w.heap.size (by omega)).trans HP0.out)
    have HB1 := Lib.hid (HB0.out.trans (hb1.mono (by omega)))
    obtain ⟨W2, hW2⟩ : ∃ W2, ((w1.alloc (.cells #[.slice none 0 0] 35)).alloc (.cells #[.int .i64 r.xa, .int .i64 r.xb, .int .i64 r.ya, .int .i64 r.yb, .slice A ns.length c] 28)).alloc (.cells #[.int .i64 kerf] 3) = W2 := ⟨_, rfl⟩
    clear p0 p1 p2 p3 p4 hb1 hW0
    obtain ⟨p0, p1, p2, p3, p4⟩ := cells5 HP1.out
    have hNM : w.heap.size < M := by omega
    gi_wp2
    refine ⟨trivial, (places_in _ r (.slice A ns.length c) rfl kerf _).mono ?_⟩
    rintro e w2 ⟨he, hw2⟩
    rw [World.size_alloc, hM] at he
    rw [hW2] at hw2
    subst he hw2
    gi_wp2
    have hs2 : w2.heap.size = M + 1 + 1 + 1 := by rw [← hW2]; simp only [World.size_alloc]; rw [hM]
    have hb12 : Below w1.heap.size w1 w2 := by rw [← hW2]; repeat (first | exact Below.refl _ _ | apply bel_alloc)
    have hm2 : w2.heap[M]? = some (.cells #[.slice none 0 0] 35 (0, 0)) := by rw [← hW2, ← hM]; exact hpA (hpA (heap_alloc_last w1 _) _) _
    have hpb2 : PatAt w2 (M + 1) r (.slice A ns.length c) := by
      rw [← hW2, ← hM]
      have h := heap_alloc_last (w1.alloc (.cells #[.slice none 0 0] 35)) (.cells #[.int .i64 r.xa, .int .i64 r.xb, .int .i64 r.ya, .int .i64 r.yb, .slice A ns.length c] 28)
      rw [World.size_alloc] at h
      exact hpA h _
    have hk2 : w2.heap[M + 1 + 1]? = some (.cells #[.int .i64 kerf] 3 (0, 0)) := by
      rw [← hW2, ← hM]
      have h := heap_alloc_last ((w1.alloc (.cells #[.slice none 0 0] 35)).alloc (.cells #[.int .i64 r.xa, .int .i64 r.xb, .int .i64 r.ya, .int .i64 r.yb, .slice A ns.length c] 28)) (.cells #[.int .i64 kerf] 3)
      simp only [World.size_alloc] at h
      exact h
    have hbw2 : Below w.heap.size w w2 := HB1.out.trans (hb12.mono (by omega))
    have hpa2 : PatAt w2 w.heap.size r (.slice A ns.length c) := (hb12.block w.heap.size (by omega)).trans HP1.out
    clear p0 p1 p2 p3 p4 hb12 hW2
    refine wpIn_rangeX rfl (by decide) (gf := 83) (lb := #[.pointer (some ⟨M + 1, 0, none⟩), .pointer (some ⟨M + 1 + 1, 0, none⟩)]) rfl trivial (enters_of Tryd.func83 (by kernel_rfl) rfl)
      (places_seq 4 w.heap.size (M + 1) (M + 1 + 1) (by decide) r ns (.slice A ns.length c) kerf w2 hpb2 hk2 ⟨by omega, by omega, by omega⟩ (HNS.out.below hbw2) hl127) (by omega) (fun b hb => by rcases hb with rfl | rfl <;> omega) (Below.refl _ _) (fun _ => rfl)
      (fun pre X W => PatAt W w.heap.size r (.slice A ns.length c) ∧ Below w.heap.size w W ∧ ∃ v, LfCol W M X v (pre.flatMap (leafAt ns)))
      (fun _ _ _ => False) ?hI (fun _ _ _ _ _ h _ _ => h) ⟨hpa2, hbw2, .slice none 0 0, hm2, ⟨rfl, .inl ⟨rfl, rfl⟩⟩, fun b hb => ⟨by rcases hb with rfl | rfl <;> omega, nofun⟩⟩
      (fun x a' W => ∃ Bx, M < Bx ∧ W.heap[Bx]? = some (.cells #[.int .i64 x.2.rect.xa, .int .i64 x.2.rect.xb, .int .i64 x.2.rect.ya, .int .i64 x.2.rect.yb, .int .i64 x.2.level] 88 (0, 0)) ∧ a' = { tmps := #[.agg #[.int .i64 r.xa, .int .i64 r.xb, .int .i64 r.ya, .int .i64 r.yb, .slice A ns.length c], .int .i64 kerf, .pointer (some ⟨w.heap.size, 0, none⟩), undef, .slice none 0 0, .int .i64 0, .int .i64 0, .pointer (some ⟨M, 0, none⟩), .int .i64 x.1, .pointer (some ⟨Bx, 0, none⟩), undef, .agg #[.int .i64 r.xa, .int .i64 r.xb, .int .i64 r.ya, .int .i64 r.yb, .slice A ns.length c], .int .i64 kerf, .int .i64 0, .int .i64 0, .bool false, undef, .agg #[.int .i64 r.xa, .int .i64 r.xb, .int .i64 r.ya, .int .i64 r.yb, .slice A ns.length c], .int .i64 kerf, .func (.func 83) #[] #[.pointer (some ⟨M + 1, 0, none⟩), .pointer (some ⟨M + 1 + 1, 0, none⟩)], .int .i64 x.1, .agg #[.int .i64 x.2.rect.xa, .int .i64 x.2.rect.xb, .int .i64 x.2.rect.ya, .int .i64 x.2.rect.yb, .int .i64 x.2.level], undef, undef, undef, undef, undef, undef, undef, undef, undef, undef, undef, undef, undef, undef, undef, undef, undef, undef, undef, undef, undef, undef, undef, undef, undef, undef], defers := [] }) ?hAx ?assign ?body ?done ?stop
    case hI =>
      rintro pre X X' W W' row ⟨h2, h3, v, h4⟩ hg hrow hX'
      have hr : ∀ b, row = some b → M < b := fun b e => (hrow b e).elim (fun h => (h4.2.2 b h).1) (fun h => by omega)
      have hml := (Array.getElem?_eq_some_iff.1 h4.1).1
      have kp : ∀ b, b < M → W'.heap[b]? = W.heap[b]? := fun b hb => hg.block b (by omega) (fun e => by have := hr b e.symm; omega)
      exact ⟨(kp _ (by omega)).trans h2, h3.grown hg (by omega) (fun b e => by have := hr b e; omega), v, ColAt.own h4 hg hrow hX'⟩
    case hAx =>
      rintro x a' W l o o' ⟨Bx, h1, h2, h3⟩ hl ho hoc
      refine ⟨Bx, h1, (World.putObj_heap_other ?_).trans h2, h3⟩
      rintro rfl
      rw [h2] at ho
      injection ho with ho
      subst ho
      cases hoc
    case assign =>
      rintro l pre X x W ⟨h2, h3, v, h4⟩ hX ⟨rest, hL⟩ hsz
      simp only [plV]
      gi_wp2
      exact ⟨World.grownBy_alloc W _ none, W.heap.size, by omega, heap_alloc_last W _, rfl⟩
    case body =>
      rintro l pre X x a' W ⟨h2, h3, v, h4⟩ ⟨Bx, hBx, hbx, rfl⟩ hX ⟨rest, hL⟩ hsz
      obtain ⟨i, p⟩ := x
      have hpr : PassP anyB ns pre := fun j y hy => HPS.out j y (by rw [hL, List.getElem?_append_left (List.getElem?_eq_some_iff.1 hy).1]; exact hy)
      obtain ⟨j1, j2, _, _⟩ := round_at hkf ns [⟨r, 1⟩] 0 i pre p rest (fun y hy => by simp only [List.mem_singleton] at hy; subst hy; exact HRF.out) hL hpr
      rw [Nat.zero_add] at j1
      subst j1
      obtain ⟨n, hn, hpass⟩ := HPS.out pre.length (pre.length, p) (by rw [hL, List.getElem?_append_right (Nat.le_refl _), Nat.sub_self]; rfl)
      have hlt : pre.length < ns.length := (List.getElem?_eq_some_iff.1 hn).1
      have hacl : (pre.flatMap (leafAt ns)).length ≤ pre.length := flat_le _ pre (fun y => leafAt_len ns y)
      have HA := Lib.hid (show (pre ++ [(pre.length, p)]).flatMap (leafAt ns) = pre.flatMap (leafAt ns) ++ leafP n p by
        rw [List.flatMap_append, List.flatMap_cons, List.flatMap_nil, List.append_nil]
        simp only [leafAt, hn])
      obtain ⟨acc, hacc⟩ : ∃ acc, pre.flatMap (leafAt ns) = acc := ⟨_, rfl⟩
      rw [hacc] at h4 HA hacl
      have HC := Lib.hid h4
      have HP := Lib.hid h2
      have HB := Lib.hid h3
      have HXL := Lib.hid hX
      have HPX := Lib.hid hbx
      have HR2 := Lib.hid j2
      have hmW : M < W.heap.size := (Array.getElem?_eq_some_iff.1 h4.1).1
      have hBxW : Bx < W.heap.size := (Array.getElem?_eq_some_iff.1 hbx).1
      obtain ⟨p0, p1, p2, p3, p4⟩ := cells5 h2
      obtain ⟨x0, x1, x2, x3, x4⟩ := cells5 hbx
      have hmc : W.cell? ⟨M, 0, none⟩ = some v := cell_of_box h4.1 rfl
      have hmf : W.frozen? ⟨M, 0, none⟩ = false := frz h4.1 0
      obtain ⟨bn, on, hA, hbn, d0, d1⟩ := RdNd.at_ (HNS.out.below HB.out) hn
      subst hA
      have hkz : 0 ≤ n.kind ∧ n.kind ≤ 3 := by
        have h := fullErr_node hpass
        unfold nodeErr at h
        split at h
        · cases h
        · omega
      have hNW : w.heap.size < W.heap.size := by omega
      obtain ⟨i0, hi0, hz0, hz1, hz2⟩ := info_parts lf_infoE
      have HPASS := Lib.hid hpass
      clear h2 h3 h4 hX hbx hL hpr j2 hn hacc hpass
      by_cases k0 : n.kind = 0
      · have HL1 := Lib.hid (show leafP n p = [⟨p.rect, -1⟩] by rw [leafP, if_pos k0])
        have HN6 := Lib.hid (show ((W.alloc (.cells #[.int .i64 n.kind, .int .i64 n.pos] 64)).alloc (.cells (lfCells ⟨p.rect, -1⟩).toArray 59)).heap[W.heap.size + 1]? = some (.cells (lfCells ⟨p.rect, -1⟩).toArray 59 (0, 0)) by
          have h := heap_alloc_last (W.alloc (.cells #[.int .i64 n.kind, .int .i64 n.pos] 64)) (.cells (lfCells ⟨p.rect, -1⟩).toArray 59)
          rw [World.size_alloc] at h
          exact h)
        have kb : (n.kind == 0) = true := by rw [beq_iff_eq]; exact k0
        clear k0
        gi_wp2_with (gi_at_builtin; refine wpListIn_append_lies _ (by rfl) _ _ 35 (by rfl) (M + 1) 59 i0 _ 5 40 Tryd.underlying35 hi0 hz0 hz1 hz2 rfl (by decide) v acc.length (lfsCells acc) (by rfl) (World.ownsRow.alloc (World.ownsRow.alloc HC.out.2.1 _) _) ⟨W.heap.size + 1, 0, none⟩ 1 1 (lfCells ⟨p.rect, -1⟩) (by rfl) (by rfl) (World.news_of_block (cs := (lfCells ⟨p.rect, -1⟩).toArray) (t := 59) (fr := (0, 0)) HN6.out) (lf_mem _) (by decide) (by simp only [maxLen]; omega) (by omega) (by simp only [World.size_alloc]; omega) _ rfl ?_; intro g7 cap7 w7 hown7 hgrow hat hlt7; have HO7 := Lib.hid hown7; have HG7 := Lib.hid hgrow; have HAT := Lib.hid hat; (have hm7 : w7.cell? ⟨M, 0, none⟩ = some v := own_cell hgrow (HC.out.2.1) (hpA (hpA HC.out.1 _) _) (by omega)); (have hm7f : w7.frozen? ⟨M, 0, none⟩ = false := own_frz hgrow (HC.out.2.1) (hpA (hpA HC.out.1 _) _) (by omega)); clear hown7 hgrow hat hlt7)
        have hput := ColAt.put (n₀ := w.heap.size) (by omega) HC.out HXL.out (by repeat (first | exact Below.refl _ _ | apply bel_alloc)) HG7.out HO7.out HAT.out (by simp only [World.size_alloc]; omega)
        have hput2 := ColAt.put (n₀ := M) (Nat.le_refl _) HC.out HXL.out (by repeat (first | exact Below.refl _ _ | apply bel_alloc)) HG7.out HO7.out HAT.out (by simp only [World.size_alloc]; omega)
        refine ⟨hput.2.2, hput.2.1, (hput2.2.1.1.block _ (by omega)).trans HP.out, HB.out.trans hput.2.1.1, .slice (some ⟨g7, 0, none⟩) (acc.length + 1) cap7, ?_⟩
        unfold LfCol
        rw [HA.out, HL1.out, List.length_append, lfsCells_snoc]
        exact hput.1
      · by_cases k1 : n.kind = 1
        · have HL1 := Lib.hid (show leafP n p = [⟨p.rect, n.pos⟩] by rw [leafP, if_neg k0, if_pos k1])
          have HN6 := Lib.hid (show ((W.alloc (.cells #[.int .i64 n.kind, .int .i64 n.pos] 64)).alloc (.cells (lfCells ⟨p.rect, n.pos⟩).toArray 59)).heap[W.heap.size + 1]? = some (.cells (lfCells ⟨p.rect, n.pos⟩).toArray 59 (0, 0)) by
            have h := heap_alloc_last (W.alloc (.cells #[.int .i64 n.kind, .int .i64 n.pos] 64)) (.cells (lfCells ⟨p.rect, n.pos⟩).toArray 59)
            rw [World.size_alloc] at h
            exact h)
          have kb : (n.kind == 0) = false := by rw [beq_eq_false_iff_ne]; exact k0
          have kb1 : (n.kind == 1) = true := by rw [beq_iff_eq]; exact k1
          clear k0 k1
          gi_wp2_with (gi_at_builtin; refine wpListIn_append_lies _ (by rfl) _ _ 35 (by rfl) (M + 1) 59 i0 _ 5 40 Tryd.underlying35 hi0 hz0 hz1 hz2 rfl (by decide) v acc.length (lfsCells acc) (by rfl) (World.ownsRow.alloc (World.ownsRow.alloc HC.out.2.1 _) _) ⟨W.heap.size + 1, 0, none⟩ 1 1 (lfCells ⟨p.rect, n.pos⟩) (by rfl) (by rfl) (World.news_of_block (cs := (lfCells ⟨p.rect, n.pos⟩).toArray) (t := 59) (fr := (0, 0)) HN6.out) (lf_mem _) (by decide) (by simp only [maxLen]; omega) (by omega) (by simp only [World.size_alloc]; omega) _ rfl ?_; intro g7 cap7 w7 hown7 hgrow hat hlt7; have HO7 := Lib.hid hown7; have HG7 := Lib.hid hgrow; have HAT := Lib.hid hat; (have hm7 : w7.cell? ⟨M, 0, none⟩ = some v := own_cell hgrow (HC.out.2.1) (hpA (hpA HC.out.1 _) _) (by omega)); (have hm7f : w7.frozen? ⟨M, 0, none⟩ = false := own_frz hgrow (HC.out.2.1) (hpA (hpA HC.out.1 _) _) (by omega)); clear hown7 hgrow hat hlt7)
          have hput := ColAt.put (n₀ := w.heap.size) (by omega) HC.out HXL.out (by repeat (first | exact Below.refl _ _ | apply bel_alloc)) HG7.out HO7.out HAT.out (by simp only [World.size_alloc]; omega)
          have hput2 := ColAt.put (n₀ := M) (Nat.le_refl _) HC.out HXL.out (by repeat (first | exact Below.refl _ _ | apply bel_alloc)) HG7.out HO7.out HAT.out (by simp only [World.size_alloc]; omega)
          refine ⟨hput.2.2, hput.2.1, (hput2.2.1.1.block _ (by omega)).trans HP.out, HB.out.trans hput.2.1.1, .slice (some ⟨g7, 0, none⟩) (acc.length + 1) cap7, ?_⟩
          unfold LfCol
          rw [HA.out, HL1.out, List.length_append, lfsCells_snoc]
          exact hput.1
        · have HL1 := Lib.hid (show leafP n p = [] by rw [leafP, if_neg k0, if_neg k1])
          have kb : (n.kind == 0) = false := by rw [beq_eq_false_iff_ne]; exact k0
          have kb1 : (n.kind == 1) = false := by rw [beq_eq_false_iff_ne]; exact k1
          clear k0 k1
          gi_wp2
          refine ⟨KeepsOthers.alloc _ _, ⟨(Below.refl w.heap.size W).alloc (by omega) _, fun b hb => Below.heap_alloc _ _ _ (HXL.out b hb)⟩, hpA HP.out _, HB.out.alloc (by omega) _, v, ?_⟩
          rw [HA.out, HL1.out, List.append_nil]
          exact ColAt.own HC.out (row := none) (B := 0) (World.grownBy_alloc W _ none) nofun (fun b hb => .inl hb)
    case done =>
      rintro D X W hD ⟨h2, h3, v, h4⟩ hK
      have hac := (leaves_acc (kerf := kerf) ns ns [⟨r, 1⟩] 0 rfl).1
      rw [hac] at h4
      have hmc : W.cell? ⟨M, 0, none⟩ = some v := cell_of_box h4.1 rfl
      gi_wp2
      refine ⟨by simp, .inl ⟨_, _, rfl, run_takeDeferred hK, ?_⟩⟩
      have hgr := grownBy_putObj' W D (.deferred none)
      have hrd := Rd.of_own (h4.2.1.kept hgr (by
        cases hv : v.ownBlock with
        | none => exact .inl rfl
        | some g =>
          right
          intro e
          injection e with e
          obtain ⟨_, cur, hc⟩ := own_at h4.2.1 hv
          rw [e, hK] at hc
          cases hc))
      refine ⟨.tuple #[v, .int .i64 0], by simp [results, Tryd.results15, go_sem], v, by rw [HL.out], ?_, h3.grown hgr h3.size (fun b e => by injection e with e; omega)⟩
      rw [HL.out]
      exact hrd
    case stop =>
      rintro D cd pre W hD hpre h
      exact h.elim
  · have hz : R = ([], q) := by rw [HRES.out, if_pos hqz]
    subst hz
    have hqb : (q != 0) = true := by rw [bne_iff_ne]; exact hqz
    clear hqz HRES HQ
    go_enter Tryd.func15, Tryd.ntmps15
    go_wp2_with fail
    refine HCK.out.mono ?_
    rintro e w1 ⟨he, hb1⟩
    subst he
    have HB1 := Lib.hid (HB0.out.trans (hb1.mono (by omega)))
    clear hb1
    go_wp2_with fail
    refine bodyPost_ret (v := .tuple #[.slice none 0 0, .int .i64 q]) (by simp [results, Tryd.results15, go_sem]) rfl ⟨_, rfl, Rd.none_, HB1.out⟩

set_option maxRecDepth 100000 in
set_option maxHeartbeats 4000000 in
theorem cuts_any (r : Rc) (ns : List Nd) (nv : Value) (kerf : Int) (w : World) (hns : RdNd w w.heap.size nv ns) :
    Calls Tryd.prog 17 #[.agg #[.int .i64 r.xa, .int .i64 r.xb, .int .i64 r.ya, .int .i64 r.yb, nv], .int .i64 kerf] w (CutsPost w (cutsP r ns kerf)) := by
  obtain ⟨A, c, rfl, hc, hml⟩ := hns.form
  unfold maxLen at hml
  obtain ⟨q, hq⟩ : ∃ q, checkPt r ns kerf anyB = q := ⟨_, rfl⟩
  have hres : cutsP r ns kerf = if q ≠ 0 then ([], q) else (cutsL kerf ns [⟨r, 1⟩], 0) := by rw [cutsP, hq]
  obtain ⟨R, hR⟩ : ∃ R, cutsP r ns kerf = R := ⟨_, rfl⟩
  rw [hR] at hres ⊢
  obtain ⟨W0, hW0⟩ : ∃ W0, (w.alloc (.cells #[.int .i64 r.xa, .int .i64 r.xb, .int .i64 r.ya, .int .i64 r.yb, .slice A ns.length c] 28)).alloc (.cells #[.int .i64 kerf] 3) = W0 := ⟨_, rfl⟩
  have hs0 : W0.heap.size = w.heap.size + 1 + 1 := by rw [← hW0]; simp only [World.size_alloc]
  have hb0 : Below w.heap.size w W0 := by rw [← hW0]; repeat (first | exact Below.refl _ _ | apply bel_alloc)
  have hp0 : PatAt W0 w.heap.size r (.slice A ns.length c) := by rw [← hW0]; exact hpA (heap_alloc_last w _) _
  have hk0 : W0.heap[w.heap.size + 1]? = some (.cells #[.int .i64 kerf] 3 (0, 0)) := by
    rw [← hW0]
    have h := heap_alloc_last (w.alloc (.cells #[.int .i64 r.xa, .int .i64 r.xb, .int .i64 r.ya, .int .i64 r.yb, .slice A ns.length c] 28)) (.cells #[.int .i64 kerf] 3)
    rw [World.size_alloc] at h
    exact h
  have HCK := Lib.hid (check_any 46 #[] anyB r ns (.slice A ns.length c) kerf W0 (fun args W => enters_of Tryd.func46 (by kernel_rfl) rfl args W) (fun x k W _ _ => anyBoard_any x k W) (hns.next hb0))
  rw [hq] at HCK
  obtain ⟨p0, p1, p2, p3, p4⟩ := cells5 hp0
  have k0 : W0.cell? ⟨w.heap.size + 1, 0, none⟩ = some (.int .i64 kerf) := cell_of_box hk0 rfl
  have HNS := Lib.hid hns
  have HB0 := Lib.hid hb0
  have HP0 := Lib.hid hp0
  have HK0 := Lib.hid hk0
  have HRES := Lib.hid hres
  have HQ := Lib.hid hq
  clear hns hb0 hp0 hres hq hR hk0
  by_cases hqz : q = 0
  · subst hqz
    have HL := Lib.hid (show R = (cutsL kerf ns [⟨r, 1⟩], 0) by rw [HRES.out, if_neg (by simp)])
    have hchk : frameP r = true ∧ ¬ (kerf < 0 ∨ 20 < kerf) ∧ ¬ 127 < ns.length ∧ chkL kerf anyB ns [⟨r, 1⟩] = 0 := by
      have h := HQ.out
      unfold checkPt at h
      by_cases h1 : frameP r = false
      · rw [if_pos h1] at h; cases h
      · rw [if_neg h1] at h
        by_cases h2 : kerf < 0 ∨ 20 < kerf
        · rw [if_pos h2] at h; cases h
        · rw [if_neg h2] at h
          by_cases h3 : 127 < ns.length
          · rw [if_pos h3] at h; cases h
          · rw [if_neg h3] at h
            exact ⟨by simpa using h1, h2, h3, h⟩
    obtain ⟨hfr, hkf, hl127, hck⟩ := hchk
    have hkf : 0 ≤ kerf ∧ kerf ≤ 20 := by omega
    have hl127 : ns.length ≤ 127 := by omega
    obtain ⟨hps, hll⟩ := chk_ok ns [⟨r, 1⟩] 0 hck
    have HPS := Lib.hid hps
    have HLL := Lib.hid hll
    have HRF := Lib.hid (frame_ok hfr)
    clear hps hll hck hfr HQ HRES
    refine (callsIn_wide (n := 5)).1 ?_
    refine callsIn_of_wp_marks Tryd.func17 rfl trivial ?_ rfl
    simp only [Tryd.ntmps17, List.size_toArray, List.length_cons, List.length_nil, Nat.reduceAdd, Nat.reduceSub, Array.replicate_succ, Array.replicate_zero, List.push_toArray, List.append_toArray, List.nil_append, List.cons_append]
    gi_wp2
    refine ⟨trivial, (callsIn_wide.2 HCK.out).mono ?_⟩
    rintro e w1 ⟨he, hb1⟩
    subst he
    obtain ⟨M, hM⟩ : ∃ M, w1.heap.size = M := ⟨_, rfl⟩
    have hMs := hb1.size
    rw [hM, hs0] at hMs
    have HP1 := Lib.hid ((hb1.block w.heap.size (by omega)).trans HP0.out)
    have HK1 := Lib.hid ((hb1.block (w.heap.size + 1) (by omega)).trans HK0.out)
    have HB1 := Lib.hid (HB0.out.trans (hb1.mono (by omega)))
    obtain ⟨W2, hW2⟩ : ∃ W2, ((w1.alloc (.cells #[.slice none 0 0] 38)).alloc (.cells #[.int .i64 r.xa, .int .i64 r.xb, .int .i64 r.ya, .int .i64 r.yb, .slice A ns.length c] 28)).alloc (.cells #[.int .i64 kerf] 3) = W2 := ⟨_, rfl⟩
    clear p0 p1 p2 p3 p4 hb1 hW0 k0
    obtain ⟨p0, p1, p2, p3, p4⟩ := cells5 HP1.out
    have k0 : w1.cell? ⟨w.heap.size + 1, 0, none⟩ = some (.int .i64 kerf) := cell_of_box HK1.out rfl
    have hNM : w.heap.size < M := by omega
    have hNM1 : w.heap.size + 1 < M := by omega
    gi_wp2
    refine ⟨trivial, (places_in _ r (.slice A ns.length c) rfl kerf _).mono ?_⟩
    rintro e w2 ⟨he, hw2⟩
    rw [World.size_alloc, hM] at he
    rw [hW2] at hw2
    subst he hw2
    gi_wp2
    have hs2 : w2.heap.size = M + 1 + 1 + 1 := by rw [← hW2]; simp only [World.size_alloc]; rw [hM]
    have hb12 : Below w1.heap.size w1 w2 := by rw [← hW2]; repeat (first | exact Below.refl _ _ | apply bel_alloc)
    have hm2 : w2.heap[M]? = some (.cells #[.slice none 0 0] 38 (0, 0)) := by rw [← hW2, ← hM]; exact hpA (hpA (heap_alloc_last w1 _) _) _
    have hpb2 : PatAt w2 (M + 1) r (.slice A ns.length c) := by
      rw [← hW2, ← hM]
      have h := heap_alloc_last (w1.alloc (.cells #[.slice none 0 0] 38)) (.cells #[.int .i64 r.xa, .int .i64 r.xb, .int .i64 r.ya, .int .i64 r.yb, .slice A ns.length c] 28)
      rw [World.size_alloc] at h
      exact hpA h _
    have hk2 : w2.heap[M + 1 + 1]? = some (.cells #[.int .i64 kerf] 3 (0, 0)) := by
      rw [← hW2, ← hM]
      have h := heap_alloc_last ((w1.alloc (.cells #[.slice none 0 0] 38)).alloc (.cells #[.int .i64 r.xa, .int .i64 r.xb, .int .i64 r.ya, .int .i64 r.yb, .slice A ns.length c] 28)) (.cells #[.int .i64 kerf] 3)
      simp only [World.size_alloc] at h
      exact h
    have hbw2 : Below w.heap.size w w2 := HB1.out.trans (hb12.mono (by omega))
    have hpa2 : PatAt w2 w.heap.size r (.slice A ns.length c) := (hb12.block w.heap.size (by omega)).trans HP1.out
    have hka2 := (hb12.block (w.heap.size + 1) (by omega)).trans HK1.out
    clear p0 p1 p2 p3 p4 hb12 hW2 k0
    refine wpIn_rangeX rfl (by decide) (gf := 83) (lb := #[.pointer (some ⟨M + 1, 0, none⟩), .pointer (some ⟨M + 1 + 1, 0, none⟩)]) rfl trivial (enters_of Tryd.func83 (by kernel_rfl) rfl)
      (places_seq 4 w.heap.size (M + 1) (M + 1 + 1) (by decide) r ns (.slice A ns.length c) kerf w2 hpb2 hk2 ⟨by omega, by omega, by omega⟩ (HNS.out.below hbw2) hl127) (by omega) (fun b hb => by rcases hb with rfl | rfl <;> omega) (Below.refl _ _) (fun _ => rfl)
      (fun pre X W => (PatAt W w.heap.size r (.slice A ns.length c) ∧ W.heap[w.heap.size + 1]? = some (.cells #[.int .i64 kerf] 3 (0, 0))) ∧ Below w.heap.size w W ∧ ∃ v, RcCol W M X v (pre.flatMap (cutAt kerf ns)))
      (fun _ _ _ => False) ?hI (fun _ _ _ _ _ h _ _ => h) ⟨⟨hpa2, hka2⟩, hbw2, .slice none 0 0, hm2, ⟨rfl, .inl ⟨rfl, rfl⟩⟩, fun b hb => ⟨by rcases hb with rfl | rfl <;> omega, nofun⟩⟩
      (fun x a' W => ∃ Bx, M < Bx ∧ W.heap[Bx]? = some (.cells #[.int .i64 x.2.rect.xa, .int .i64 x.2.rect.xb, .int .i64 x.2.rect.ya, .int .i64 x.2.rect.yb, .int .i64 x.2.level] 88 (0, 0)) ∧ a' = { tmps := #[.agg #[.int .i64 r.xa, .int .i64 r.xb, .int .i64 r.ya, .int .i64 r.yb, .slice A ns.length c], .int .i64 kerf, .pointer (some ⟨w.heap.size, 0, none⟩), .pointer (some ⟨w.heap.size + 1, 0, none⟩), .slice none 0 0, .int .i64 0, .int .i64 0, .pointer (some ⟨M, 0, none⟩), .int .i64 x.1, .pointer (some ⟨Bx, 0, none⟩), undef, undef, undef, undef, .agg #[.int .i64 r.xa, .int .i64 r.xb, .int .i64 r.ya, .int .i64 r.yb, .slice A ns.length c], .int .i64 kerf, .int .i64 0, .int .i64 0, .bool false, undef, .agg #[.int .i64 r.xa, .int .i64 r.xb, .int .i64 r.ya, .int .i64 r.yb, .slice A ns.length c], .int .i64 kerf, .func (.func 83) #[] #[.pointer (some ⟨M + 1, 0, none⟩), .pointer (some ⟨M + 1 + 1, 0, none⟩)], .int .i64 x.1, .agg #[.int .i64 x.2.rect.xa, .int .i64 x.2.rect.xb, .int .i64 x.2.rect.ya, .int .i64 x.2.rect.yb, .int .i64 x.2.level], undef, undef, undef, undef, undef, undef, undef, undef, undef, undef, undef, undef, undef, undef, undef, undef, undef, undef, undef, undef, undef, undef], defers := [] }) ?hAx ?assign ?body ?done ?stop
    case hI =>
      rintro pre X X' W W' row ⟨h2, h3, v, h4⟩ hg hrow hX'
      have hr : ∀ b, row = some b → M < b := fun b e => (hrow b e).elim (fun h => (h4.2.2 b h).1) (fun h => by omega)
      have hml := (Array.getElem?_eq_some_iff.1 h4.1).1
      have kp : ∀ b, b < M → W'.heap[b]? = W.heap[b]? := fun b hb => hg.block b (by omega) (fun e => by have := hr b e.symm; omega)
      exact ⟨⟨(kp _ (by omega)).trans h2.1, (kp _ (by omega)).trans h2.2⟩, h3.grown hg (by omega) (fun b e => by have := hr b e; omega), v, ColAt.own h4 hg hrow hX'⟩
    case hAx =>
      rintro x a' W l o o' ⟨Bx, h1, h2, h3⟩ hl ho hoc
      refine ⟨Bx, h1, (World.putObj_heap_other ?_).trans h2, h3⟩
      rintro rfl
      rw [h2] at ho
      injection ho with ho
      subst ho
      cases hoc
    case assign =>
      rintro l pre X x W ⟨h2, h3, v, h4⟩ hX ⟨rest, hL⟩ hsz
      simp only [plV]
      gi_wp2
      exact ⟨World.grownBy_alloc W _ none, W.heap.size, by omega, heap_alloc_last W _, rfl⟩
    case body =>
      rintro l pre X x a' W ⟨h2, h3, v, h4⟩ ⟨Bx, hBx, hbx, rfl⟩ hX ⟨rest, hL⟩ hsz
      obtain ⟨i, p⟩ := x
      have hpr : PassP anyB ns pre := fun j y hy => HPS.out j y (by rw [hL, List.getElem?_append_left (List.getElem?_eq_some_iff.1 hy).1]; exact hy)
      obtain ⟨j1, j2, _, _⟩ := round_at hkf ns [⟨r, 1⟩] 0 i pre p rest (fun y hy => by simp only [List.mem_singleton] at hy; subst hy; exact HRF.out) hL hpr
      rw [Nat.zero_add] at j1
      subst j1
      obtain ⟨n, hn, hpass⟩ := HPS.out pre.length (pre.length, p) (by rw [hL, List.getElem?_append_right (Nat.le_refl _), Nat.sub_self]; rfl)
      have hlt : pre.length < ns.length := (List.getElem?_eq_some_iff.1 hn).1
      have hacl : (pre.flatMap (cutAt kerf ns)).length ≤ pre.length := flat_le _ pre (fun y => cutAt_len kerf ns y)
      have HA := Lib.hid (show (pre ++ [(pre.length, p)]).flatMap (cutAt kerf ns) = pre.flatMap (cutAt kerf ns) ++ cutP kerf n p by
        rw [List.flatMap_append, List.flatMap_cons, List.flatMap_nil, List.append_nil]
        simp only [cutAt, hn])
      obtain ⟨acc, hacc⟩ : ∃ acc, pre.flatMap (cutAt kerf ns) = acc := ⟨_, rfl⟩
      rw [hacc] at h4 HA hacl
      have HC := Lib.hid h4
      have HP := Lib.hid h2
      have HB := Lib.hid h3
      have HXL := Lib.hid hX
      have HPX := Lib.hid hbx
      have HR2 := Lib.hid j2
      have hmW : M < W.heap.size := (Array.getElem?_eq_some_iff.1 h4.1).1
      have hBxW : Bx < W.heap.size := (Array.getElem?_eq_some_iff.1 hbx).1
      obtain ⟨p0, p1, p2, p3, p4⟩ := cells5 h2.1
      have k0 : W.cell? ⟨w.heap.size + 1, 0, none⟩ = some (.int .i64 kerf) := cell_of_box h2.2 rfl
      obtain ⟨x0, x1, x2, x3, x4⟩ := cells5 hbx
      have hmc : W.cell? ⟨M, 0, none⟩ = some v := cell_of_box h4.1 rfl
      have hmf : W.frozen? ⟨M, 0, none⟩ = false := frz h4.1 0
      obtain ⟨bn, on, hA, hbn, d0, d1⟩ := RdNd.at_ (HNS.out.below HB.out) hn
      subst hA
      have hkz : 0 ≤ n.kind ∧ n.kind ≤ 3 := by
        have h := fullErr_node hpass
        unfold nodeErr at h
        split at h
        · cases h
        · omega
      have hNW : w.heap.size < W.heap.size := by omega
      have hNW1 : w.heap.size + 1 < W.heap.size := by omega
      obtain ⟨i0, hi0, hz0, hz1, hz2⟩ := info_parts rc_infoE
      have HPASS := Lib.hid hpass
      clear h2 h3 h4 hX hbx hL hpr j2 hn hacc hpass
      gi_wp2
      refine ⟨trivial, (CallsIn.inRound l (callsIn_wide.2 (isRip_any n.kind _))).mono ?_⟩
      rintro e w4 ⟨he, rfl⟩
      subst he
      cases hrp : ripP n.kind with
      | false =>
        have HL1 := Lib.hid (show cutP kerf n p = [] by rw [cutP, hrp]; rfl)
        clear hrp
        gi_wp2
        refine ⟨KeepsOthers.alloc _ _, ⟨(Below.refl w.heap.size W).alloc (by omega) _, fun b hb => Below.heap_alloc _ _ _ (HXL.out b hb)⟩, ⟨hpA HP.out.1 _, hpA HP.out.2 _⟩, HB.out.alloc (by omega) _, v, ?_⟩
        rw [HA.out, HL1.out, List.append_nil]
        exact ColAt.own HC.out (row := none) (B := 0) (World.grownBy_alloc W _ none) nofun (fun b hb => .inl hb)
      | true =>
        have HL1 := Lib.hid (show cutP kerf n p = [partC p.rect n kerf] by rw [cutP, hrp]; rfl)
        clear hrp
        gi_wp2
        refine ⟨trivial, (CallsIn.inRound l (callsIn_wide.2 (parts_any p.rect n kerf _))).mono ?_⟩
        rintro e w5 ⟨he, hb5⟩
        obtain ⟨a, ha⟩ : ∃ a, part1 p.rect n = a := ⟨_, rfl⟩
        obtain ⟨b, hb⟩ : ∃ b, partC p.rect n kerf = b := ⟨_, rfl⟩
        obtain ⟨c2, hc2⟩ : ∃ c, part2 p.rect n kerf = c := ⟨_, rfl⟩
        rw [ha, hb, hc2] at he
        rw [hb] at HL1
        unfold rcV at he
        subst he
        have hsz5 := hb5.size
        rw [World.size_alloc] at hsz5
        have hbw5 : Below W.heap.size W w5 := ((Below.refl W.heap.size W).alloc (Nat.le_refl _) _).trans (hb5.mono (by rw [World.size_alloc]; omega))
        obtain ⟨W6, hW6⟩ : ∃ W6, ((w5.alloc (.cells #[.int .i64 a.xa, .int .i64 a.xb, .int .i64 a.ya, .int .i64 a.yb] 25)).alloc (.cells #[.int .i64 b.xa, .int .i64 b.xb, .int .i64 b.ya, .int .i64 b.yb] 25)).alloc (.cells #[.int .i64 c2.xa, .int .i64 c2.xb, .int .i64 c2.ya, .int .i64 c2.yb] 25) = W6 := ⟨_, rfl⟩
        have hs6 : W6.heap.size = w5.heap.size + 1 + 1 + 1 := by rw [← hW6]; simp only [World.size_alloc]
        have hb56 : Below w5.heap.size w5 W6 := by rw [← hW6]; repeat (first | exact Below.refl _ _ | apply bel_alloc)
        have hbw6 : Below W.heap.size W W6 := hbw5.trans (hb56.mono (by omega))
        have hy6 : W6.heap[w5.heap.size + 1]? = some (.cells #[.int .i64 b.xa, .int .i64 b.xb, .int .i64 b.ya, .int .i64 b.yb] 25 (0, 0)) := by
          rw [← hW6]
          have h := heap_alloc_last (w5.alloc (.cells #[.int .i64 a.xa, .int .i64 a.xb, .int .i64 a.ya, .int .i64 a.yb] 25)) (.cells #[.int .i64 b.xa, .int .i64 b.xb, .int .i64 b.ya, .int .i64 b.yb] 25)
          rw [World.size_alloc] at h
          exact hpA h _
        obtain ⟨y0, y1, y2, y3⟩ := cells4 hy6
        have HM6 := Lib.hid ((hbw6.block M hmW).trans HC.out.1)
        have hmc6 : W6.cell? ⟨M, 0, none⟩ = some v := cell_of_box HM6.out rfl
        have HO6 := Lib.hid (HC.out.2.1.kept (row := none) ⟨hbw6.os, hbw6.tape, hbw6.output, hbw6.size, fun k hk _ => hbw6.block k hk⟩ (by cases v.ownBlock <;> simp))
        have HBW6 := Lib.hid hbw6
        have HN6 := Lib.hid (show (W6.alloc (.cells (rcCells b).toArray 25)).heap[w5.heap.size + 1 + 1 + 1]? = some (.cells (rcCells b).toArray 25 (0, 0)) from hs6 ▸ heap_alloc_last W6 _)
        have hM5 : M < w5.heap.size := by omega
        clear ha hb hc2 hb5 hbw5 hb56 hbw6 hy6 d0 d1 p0 p1 p2 p3 p4 k0 x0 x1 x2 x3 x4 hmc hmf
        gi_wp2_with (gi_at_builtin; refine wpListIn_append_lies _ (by rfl) _ _ 38 (by rfl) (M + 1) 25 i0 _ 4 32 Tryd.underlying38 hi0 hz0 hz1 hz2 rfl (by decide) v acc.length (rcsCells acc) (by rfl) (World.ownsRow.alloc HO6.out _) ⟨w5.heap.size + 1 + 1 + 1, 0, none⟩ 1 1 (rcCells b) (by rfl) (by rfl) (World.news_of_block (cs := (rcCells b).toArray) (t := 25) (fr := (0, 0)) HN6.out) (rc_mem _) (by decide) (by simp only [maxLen]; omega) (by omega) (by simp only [World.size_alloc]; omega) _ rfl ?_; intro g7 cap7 w7 hown7 hgrow hat hlt7; have HO7 := Lib.hid hown7; have HG7 := Lib.hid hgrow; have HAT := Lib.hid hat; (have hm7 : w7.cell? ⟨M, 0, none⟩ = some v := own_cell hgrow (HC.out.2.1) (hpA HM6.out _) (by omega)); (have hm7f : w7.frozen? ⟨M, 0, none⟩ = false := own_frz hgrow (HC.out.2.1) (hpA HM6.out _) (by omega)); clear hown7 hgrow hat hlt7)
        have hbt := HBW6.out.trans (((Below.refl W6.heap.size W6).alloc (Nat.le_refl _) (.cells (rcCells b).toArray 25)).mono HBW6.out.size)
        have hput := ColAt.put (n₀ := w.heap.size) (by omega) HC.out HXL.out hbt HG7.out HO7.out HAT.out hbt.size
        have hput2 := ColAt.put (n₀ := M) (Nat.le_refl _) HC.out HXL.out hbt HG7.out HO7.out HAT.out hbt.size
        refine ⟨hput.2.2, hput.2.1, ⟨(hput2.2.1.1.block _ (by omega)).trans HP.out.1, (hput2.2.1.1.block _ (by omega)).trans HP.out.2⟩, HB.out.trans hput.2.1.1, .slice (some ⟨g7, 0, none⟩) (acc.length + 1) cap7, ?_⟩
        unfold RcCol
        rw [HA.out, HL1.out, List.length_append, rcsCells_snoc]
        exact hput.1
    case done =>
      rintro D X W hD ⟨h2, h3, v, h4⟩ hK
      have hac := (leaves_acc (kerf := kerf) ns ns [⟨r, 1⟩] 0 rfl).2
      rw [hac] at h4
      have hmc : W.cell? ⟨M, 0, none⟩ = some v := cell_of_box h4.1 rfl
      gi_wp2
      refine ⟨by simp, .inl ⟨_, _, rfl, run_takeDeferred hK, ?_⟩⟩
      have hgr := grownBy_putObj' W D (.deferred none)
      have hrd := Rd.of_own (h4.2.1.kept hgr (by
        cases hv : v.ownBlock with
        | none => exact .inl rfl
        | some g =>
          right
          intro e
          injection e with e
          obtain ⟨_, cur, hc⟩ := own_at h4.2.1 hv
          rw [e, hK] at hc
          cases hc))
      refine ⟨.tuple #[v, .int .i64 0], by simp [results, Tryd.results17, go_sem], v, by rw [HL.out], ?_, h3.grown hgr h3.size (fun b e => by injection e with e; omega)⟩
      rw [HL.out]
      exact hrd
    case stop =>
      rintro D cd pre W hD hpre h
      exact h.elim
  · have hz : R = ([], q) := by rw [HRES.out, if_pos hqz]
    subst hz
    have hqb : (q != 0) = true := by rw [bne_iff_ne]; exact hqz
    clear hqz HRES HQ
    go_enter Tryd.func17, Tryd.ntmps17
    go_wp2_with fail
    refine HCK.out.mono ?_
    rintro e w1 ⟨he, hb1⟩
    subst he
    have HB1 := Lib.hid (HB0.out.trans (hb1.mono (by omega)))
    clear hb1
    go_wp2_with fail
    refine bodyPost_ret (v := .tuple #[.slice none 0 0, .int .i64 q]) (by simp [results, Tryd.results17, go_sem]) rfl ⟨_, rfl, Rd.none_, HB1.out⟩

end Go.Proofs.YtbmcfodhjibooaaDoor
