/-
  sawmill/api.Stage in memory: whole ones loaded, laid and stored; slices of them.
  Schedules in memory: rows of stages and of schedules, whole ones loaded, laid and stored.
  The contracts of schedule's sound, Ends, Check.
  The contract of schedule.Check.
  The contract of schedule.Target.
-/
import Derived.Test.YthineckpociomaaDoorIdent
import Derived.Test.YthineckpociomaaDoorScP
import Derived.Test.YthineckpociomaaDoorBig
import Derived.Test.YthineckpociomaaDoorQuiet
namespace Go.Proofs.YthineckpociomaaDoor
open Go.RowKit Saw

def stgCells (x : Stg) : List Value := [.int .i64 x.below, .int .i64 x.ticks, .int .i64 x.temp, .int .i64 x.dep]
def stgsCells (l : List Stg) : List Value := l.flatMap stgCells
theorem stgCells_len (x : Stg) : (stgCells x).length = 4 := rfl
theorem stgsCells_cons (x : Stg) (l : List Stg) : stgsCells (x :: l) = stgCells x ++ stgsCells l := rfl
theorem stgsCells_length (l : List Stg) : (stgsCells l).length = l.length * 4 := by
  induction l with
  | nil => rfl
  | cons x r ih => rw [stgsCells_cons, List.length_append, ih, stgCells_len, List.length_cons]; omega
theorem stgsCells_snoc (l : List Stg) (x : Stg) : stgsCells (l ++ [x]) = stgsCells l ++ stgCells x := by simp [stgsCells]
theorem stgs_at (l : List Stg) (i : Nat) (x : Stg) (h : l[i]? = some x) (j : Nat) (hj : j < 4) : (stgsCells l)[i * 4 + j]? = (stgCells x)[j]? := by
  induction l generalizing i with
  | nil => simp at h
  | cons y r ih =>
    rw [stgsCells_cons]
    cases i with
    | zero =>
      simp only [List.getElem?_cons_zero, Option.some.injEq] at h
      subst h
      rw [List.getElem?_append_left (by rw [stgCells_len]; omega), Nat.zero_mul, Nat.zero_add]
    | succ k =>
      simp only [List.getElem?_cons_succ] at h
      rw [List.getElem?_append_right (by rw [stgCells_len]; omega), stgCells_len, ← ih k h]
      congr 1
      omega
/-- The slice value v reads as the list l. -/
def RdStg (w : World) (v : Value) (l : List Stg) : Prop := Rd w w.heap.size 4 v l.length (stgsCells l)
theorem RdStg.form {w : World} {v : Value} {l : List Stg} (h : RdStg w v l) : ∃ A c, v = .slice A l.length c ∧ l.length ≤ c ∧ l.length ≤ maxLen := by
  obtain ⟨_, h2, A, c, rfl, hc, _⟩ := h
  exact ⟨A, c, rfl, hc, h2⟩
theorem stgC0 (x : Stg) : (stgCells x)[0]? = some (.int .i64 x.below) := rfl
theorem stgC1 (x : Stg) : (stgCells x)[1]? = some (.int .i64 x.ticks) := rfl
theorem stgC2 (x : Stg) : (stgCells x)[2]? = some (.int .i64 x.temp) := rfl
theorem stgC3 (x : Stg) : (stgCells x)[3]? = some (.int .i64 x.dep) := rfl
theorem stg_info : (Tryd.prog.info? 69).map (·.size) = some 4 := by kernel_rfl
theorem stg_zero : ((Tryd.prog.info? 69).bind (·.zero)) = some (.agg #[.int .i64 0, .int .i64 0, .int .i64 0, .int .i64 0]) := by kernel_rfl
theorem stg_one (x : Stg) : (stgCells x).toArray.toList.all (·.oneCell') = true := rfl
theorem stg_size (x : Stg) : (stgCells x).toArray.size = 4 := rfl
/-- An element of a slice: where its cells lie. -/
theorem RdStg.at_ {w : World} {B : Nat} {A : Option Addr} {m c : Nat} {l : List Stg} (h : Rd w B 4 (.slice A m c) l.length (stgsCells l)) {i : Nat} {x : Stg} (hx : l[i]? = some x) :
    ∃ b off, A = some ⟨b, off, none⟩ ∧ b < B ∧ w.rangeAt b (off + i * 4) (stgCells x) :=
  h.rangeAt (List.getElem?_eq_some_iff.1 hx).1 (stgCells_len x) (stgs_at l i x hx)

theorem stg_mem (x : Stg) : ∀ v ∈ stgCells x, v.oneCell' = true := by
  have h := stg_one x
  rw [List.all_eq_true] at h
  exact h
theorem stg_there (W : World) : (W.alloc (.cells #[.int .i64 0, .int .i64 0, .int .i64 0, .int .i64 0] 69)).there W.heap.size 0 4 := there_block (heap_alloc_last W _) rfl
theorem stg_thereB {W w2 : World} (hb : Below ((W.alloc (.cells #[.int .i64 0, .int .i64 0, .int .i64 0, .int .i64 0] 69)).drew).heap.size ((W.alloc (.cells #[.int .i64 0, .int .i64 0, .int .i64 0, .int .i64 0] 69)).drew) w2) : w2.there W.heap.size 0 4 :=
  there_below hb (show W.heap.size < (W.alloc (.cells #[.int .i64 0, .int .i64 0, .int .i64 0, .int .i64 0] 69)).heap.size by rw [World.size_alloc]; omega) (stg_there W)

section
variable {ops : Array Oper} {rest : List Oper} {d : Option Tmp} {ty : TypeId} {pos : String} {af : Array Edge} {a : Act} {w : World} {Q : Exit → Act → World → Prop} {p q : Operand}
theorem stg_load (b o : Nat) (x : Stg) (hx : a.eval p = .pointer (some ⟨b, o, none⟩)) (hc : w.rangeAt b o (stgCells x))
    (h : wpList Tryd.prog ops Q rest (a.put d (.agg (stgCells x).toArray)) w) : wpList Tryd.prog ops Q (⟨d, .load 69 p, ty, pos, af, none⟩ :: rest) a w :=
  wpList_loadAs b o (stgCells x) hx hc Tryd.underlying69 rfl stg_info h
theorem stg_alloc (h : ∀ c : Array Value, Hid (c.size = 4) → wpList Tryd.prog ops Q rest (a.put d (.pointer (some ⟨w.heap.size, 0, none⟩))) (w.alloc (.cells c 69))) : wpList Tryd.prog ops Q (⟨d, .alloc 69, ty, pos, af, none⟩ :: rest) a w :=
  wpList_allocAs _ stg_zero fun c hc => h c (by rw [hc]; rfl)
theorem stg_alloc0 (h : wpList Tryd.prog ops Q rest (a.put d (.pointer (some ⟨w.heap.size, 0, none⟩))) (w.alloc (.cells #[.int .i64 0, .int .i64 0, .int .i64 0, .int .i64 0] 69))) : wpList Tryd.prog ops Q (⟨d, .alloc 69, ty, pos, af, none⟩ :: rest) a w :=
  wpList_allocAs _ stg_zero fun c hc => by rw [hc]; exact h
theorem stg_new {c : Array Value} (x : Stg) (N : Nat) (hx : a.eval p = .pointer (some ⟨N, 0, none⟩)) (hN : w.heap.size = N) (hy : a.eval q = .agg (stgCells x).toArray) (hc : Hid (c.size = 4))
    (h : wpList Tryd.prog ops Q rest (a.put d undef) (w.alloc (.cells (stgCells x).toArray 69))) : wpList Tryd.prog ops Q (⟨d, .store 69 p q, ty, pos, af, none⟩ :: rest) a (w.alloc (.cells c 69)) :=
  wpList_storeNew hx hN hy stg_info (hc.out.trans (stg_size x).symm) (stg_one x) h
theorem stg_put (g : Nat) (x : Stg) (hx : a.eval p = .pointer (some ⟨g, 0, none⟩)) (hy : a.eval q = .agg (stgCells x).toArray) {old : Array Value} {t' : TypeId} (hg : w.heap[g]? = some (.cells old t' (0, 0))) (hs : Hid (old.size = 4))
    (h : wpList Tryd.prog ops Q rest (a.put d undef) (w.setRow g (stgCells x).toArray)) : wpList Tryd.prog ops Q (⟨d, .store 69 p q, ty, pos, af, none⟩ :: rest) a w :=
  wpList_storeOld g _ hx hy hg stg_info (hs.out.trans (stg_size x).symm) (stg_one x) h
end

end Go.Proofs.YthineckpociomaaDoor

namespace Go.Proofs.YthineckpociomaaDoor
open Go.RowKit Saw

theorem below_drewNn {B : Nat} {w w' : World} (h : Below B w w') (n : Nat) : Below B w (w'.drewN n) := ⟨h.os, h.tape, h.output, h.size, h.block⟩
theorem str_eqb (a b : List UInt8) : ((str a).toList == (str b).toList) = (a == b) := by rw [toList_bts, toList_bts, bts_str, bts_str]
theorem cell_of_box {w : World} {N j : Nat} {cs : Array Value} {t : TypeId} {v : Value} (h : w.heap[N]? = some (.cells cs t (0, 0))) (hv : cs[j]? = some v) : w.cell? ⟨N, j, none⟩ = some v := by
  rw [cell_of_row w N j cs t (0, 0) h]; exact hv
def IntB (n : Int) (w : World) (e : Ending) (w' : World) : Prop := e = .returned (.int .i64 n) ∧ Below w.heap.size w w'
def BoolB (b : Bool) (w : World) (e : Ending) (w' : World) : Prop := e = .returned (.bool b) ∧ Below w.heap.size w w'

/-- The slice value v reads as the stages l; it lies below block B. -/
def RdSt (w : World) (B : Nat) (v : Value) (l : List Stg) : Prop := Rd w B 4 v l.length (stgsCells l)
theorem RdSt.form {w : World} {B : Nat} {v : Value} {l : List Stg} (h : RdSt w B v l) : ∃ A c, v = .slice A l.length c ∧ l.length ≤ c ∧ l.length ≤ maxLen := by
  obtain ⟨_, h2, A, c, rfl, hc, _⟩ := h
  exact ⟨A, c, rfl, hc, h2⟩
theorem RdSt.range {w : World} {B : Nat} {A : Option Addr} {m c : Nat} {l : List Stg} (h : RdSt w B (.slice A m c) l) {i : Nat} {x : Stg} (hx : l[i]? = some x) :
    ∃ b off, A = some ⟨b, off, none⟩ ∧ b < B ∧ w.rangeAt b (off + i * 4) (stgCells x) := RdStg.at_ h hx
theorem RdSt.at_ {w : World} {B : Nat} {A : Option Addr} {m c : Nat} {l : List Stg} (h : RdSt w B (.slice A m c) l) {i : Nat} {x : Stg} (hx : l[i]? = some x) :
    ∃ b off, A = some ⟨b, off, none⟩ ∧ b < B ∧ w.cell? ⟨b, off + i * 4, none⟩ = some (.int .i64 x.below) ∧ w.cell? ⟨b, off + i * 4 + 1, none⟩ = some (.int .i64 x.ticks) ∧ w.cell? ⟨b, off + i * 4 + 2, none⟩ = some (.int .i64 x.temp) ∧ w.cell? ⟨b, off + i * 4 + 3, none⟩ = some (.int .i64 x.dep) := by
  obtain ⟨b, off, h1, h2, h3⟩ := h.range hx
  exact ⟨b, off, h1, h2, h3 0 _ rfl, h3 1 _ rfl, h3 2 _ rfl, h3 3 _ rfl⟩
theorem RdSt.below {w w' : World} {B : Nat} {v : Value} {l : List Stg} (h : RdSt w B v l) (hb : Below B w w') : RdSt w' B v l := Rd.below h hb
theorem RdSt.more {w : World} {B B' : Nat} {v : Value} {l : List Stg} (h : RdSt w B v l) (hB : B ≤ B') : RdSt w B' v l := Rd.more h hB
theorem RdSt.next {w w' : World} {v : Value} {l : List Stg} (h : RdSt w w.heap.size v l) (hb : Below w.heap.size w w') : RdSt w' w'.heap.size v l := (h.below hb).more hb.size
theorem RdSt.nil (w : World) (B : Nat) : RdSt w B (.slice none 0 0) [] := ⟨rfl, by unfold maxLen; decide, none, 0, rfl, Nat.le_refl _, fun h => absurd h (by decide)⟩

def scCells (x : Sc) (sv : Value) : List Value := [.string (str x.name), .int .i64 x.ramp, sv]
def scsCells (m : List (Sc × Value)) : List Value := m.flatMap fun y => scCells y.1 y.2
/-- The slice value v reads as the schedules l; it, and their stages, lie below block B. -/
def RdSc (w : World) (B : Nat) (v : Value) (l : List Sc) : Prop := ∃ m : List (Sc × Value), m.map (·.1) = l ∧ Rd w B 3 v m.length (scsCells m) ∧ ∀ y ∈ m, RdSt w B y.2 y.1.stages
theorem scs_at : ∀ (m : List (Sc × Value)) (i : Nat) (y : Sc × Value), m[i]? = some y → ∀ j, j < 3 → (scsCells m)[i * 3 + j]? = (scCells y.1 y.2)[j]?
  | [], i, y, h, _, _ => by simp at h
  | z :: r, 0, y, h, j, hj => by
    simp only [List.getElem?_cons_zero, Option.some.injEq] at h
    subst h
    rw [scsCells, List.flatMap_cons, List.getElem?_append_left (by simp [scCells]; omega), Nat.zero_mul, Nat.zero_add]
  | z :: r, i + 1, y, h, j, hj => by
    simp only [List.getElem?_cons_succ] at h
    have e : (scCells z.1 z.2).length = 3 := rfl
    rw [scsCells, List.flatMap_cons, List.getElem?_append_right (by rw [e]; omega), e, ← scs_at r i y h j hj, scsCells]
    congr 1
    omega
theorem scsCells_length (m : List (Sc × Value)) : (scsCells m).length = m.length * 3 := by
  induction m with
  | nil => rfl
  | cons y r ih => rw [scsCells, List.flatMap_cons, List.length_append, ← scsCells, ih]; simp [scCells]; omega
section
variable {w w' : World} {B : Nat} {v : Value} {l : List Sc}
theorem RdSc.below (h : RdSc w B v l) (hb : Below B w w') : RdSc w' B v l := by
  obtain ⟨m, h1, h2, h3⟩ := h
  exact ⟨m, h1, h2.below hb, fun y hy => (h3 y hy).below hb⟩
theorem RdSc.more {B' : Nat} (h : RdSc w B v l) (hB : B ≤ B') : RdSc w B' v l := by
  obtain ⟨m, h1, h2, h3⟩ := h
  exact ⟨m, h1, h2.more hB, fun y hy => (h3 y hy).more hB⟩
theorem RdSc.next (h : RdSc w w.heap.size v l) (hb : Below w.heap.size w w') : RdSc w' w'.heap.size v l := (h.below hb).more hb.size
theorem RdSc.form (h : RdSc w B v l) : ∃ A c, v = .slice A l.length c ∧ l.length ≤ c ∧ l.length ≤ maxLen := by
  obtain ⟨m, rfl, ⟨_, h2, A, c, rfl, hc, _⟩, _⟩ := h
  rw [List.length_map]
  exact ⟨A, c, rfl, hc, h2⟩
end
theorem RdSc.nil (w : World) (B : Nat) : RdSc w B (.slice none 0 0) [] := ⟨[], rfl, ⟨rfl, by unfold maxLen; decide, none, 0, rfl, Nat.le_refl _, fun h => absurd h (by decide)⟩, fun _ h => by cases h⟩
theorem RdSc.at_ {w : World} {B : Nat} {A : Option Addr} {n c : Nat} {l : List Sc} (h : RdSc w B (.slice A n c) l) {i : Nat} {x : Sc} (hx : l[i]? = some x) :
    ∃ b off A1 c1, A = some ⟨b, off, none⟩ ∧ b < B ∧ x.stages.length ≤ maxLen ∧ x.stages.length ≤ c1 ∧ RdSt w B (.slice A1 x.stages.length c1) x.stages ∧
      w.cell? ⟨b, off + i * 3, none⟩ = some (.string (str x.name)) ∧ w.cell? ⟨b, off + i * 3 + 1, none⟩ = some (.int .i64 x.ramp) ∧ w.cell? ⟨b, off + i * 3 + 2, none⟩ = some (.slice A1 x.stages.length c1) := by
  obtain ⟨m, rfl, ⟨_, _, A', c', he, _, h3⟩, h4⟩ := h
  injection he with h1 h2 h5
  subst h1
  rw [List.getElem?_map] at hx
  cases hy : m[i]? with
  | none => rw [hy] at hx; cases hx
  | some y =>
    rw [hy] at hx
    injection hx with hx
    subst hx
    have hi : i < m.length := (List.getElem?_eq_some_iff.1 hy).1
    obtain ⟨b, off, rfl, hb, hcell⟩ := h3 (by omega)
    have r1 := h4 y (List.mem_of_getElem? hy)
    obtain ⟨A1, c1, e1, lc, m1⟩ := r1.form
    have hc : ∀ j, j < 3 → ∀ u, (scCells y.1 y.2)[j]? = some u → w.cell? ⟨b, off + (i * 3 + j), none⟩ = some u := fun j hj u hu => hcell _ _ ((scs_at m i y hy j hj).trans hu)
    rw [e1] at r1
    rw [e1] at hc
    exact ⟨b, off, A1, c1, rfl, hb, m1, lc, r1, hc 0 (by omega) _ rfl, hc 1 (by omega) _ rfl, hc 2 (by omega) _ rfl⟩
theorem RdSc.take {w : World} {B b off n c : Nat} {l : List Sc} (h : RdSc w B (.slice (some ⟨b, off, none⟩) n c) l) (k : Nat) (hk : k ≤ l.length) :
    RdSc w B (.slice (some ⟨b, off, none⟩) k c) (l.take k) := by
  obtain ⟨m, rfl, ⟨h1, h2, A', c', he, hc, h3⟩, h4⟩ := h
  injection he with e1 e2 e3
  subst e1 e2 e3
  rw [List.length_map] at hk
  have hl : (m.take k).length = k := by rw [List.length_take]; omega
  refine ⟨m.take k, by rw [List.map_take], ⟨scsCells_length _, by omega, _, c, by rw [hl], by omega, fun hn => ?_⟩, fun y hy => h4 y (List.mem_of_mem_take hy)⟩
  obtain ⟨b', off', hA, hb, hcell⟩ := h3 (by omega)
  refine ⟨b', off', hA, hb, fun j u hu => hcell j u ?_⟩
  rw [← List.take_append_drop k m, scsCells, List.flatMap_append, ← scsCells]
  rw [List.getElem?_append_left (List.getElem?_eq_some_iff.1 hu).1]
  exact hu

theorem sc_info : (Tryd.prog.info? 27).map (·.size) = some 3 := by kernel_rfl
theorem sc_zero : ((Tryd.prog.info? 27).bind (·.zero)) = some (.agg #[.string ⟨#[]⟩, .int .i64 0, .slice none 0 0]) := by kernel_rfl
theorem scCells_len (x : Sc) (sv : Value) : (scCells x sv).length = 3 := rfl
theorem sc_one (x : Sc) {sv : Value} (h1 : sv.oneCell' = true) : (scCells x sv).toArray.toList.all (·.oneCell') = true := by
  simp only [scCells, List.all_cons, List.all_nil, h1, Bool.and_true]
  rfl
section
variable {ops : Array Oper} {rest : List Oper} {d : Option Tmp} {ty : TypeId} {pos : String} {af : Array Edge} {a : Act} {w : World} {Q : Exit → Act → World → Prop} {p q : Operand}
theorem sc_load (b o : Nat) (x : Sc) (sv : Value) (hx : a.eval p = .pointer (some ⟨b, o, none⟩)) (hc : w.rangeAt b o (scCells x sv))
    (h : wpList Tryd.prog ops Q rest (a.put d (.agg (scCells x sv).toArray)) w) : wpList Tryd.prog ops Q (⟨d, .load 27 p, ty, pos, af, none⟩ :: rest) a w :=
  wpList_loadAs b o (scCells x sv) hx hc Tryd.underlying27 rfl sc_info h
theorem sc_alloc (h : ∀ c : Array Value, Hid (c.size = 3) → wpList Tryd.prog ops Q rest (a.put d (.pointer (some ⟨w.heap.size, 0, none⟩))) (w.alloc (.cells c 27))) : wpList Tryd.prog ops Q (⟨d, .alloc 27, ty, pos, af, none⟩ :: rest) a w :=
  wpList_allocAs _ sc_zero fun c hc => h c (by rw [hc]; rfl)
theorem sc_new {c : Array Value} (x : Sc) (sv : Value) (N : Nat) (h1 : sv.oneCell' = true) (hx : a.eval p = .pointer (some ⟨N, 0, none⟩)) (hN : w.heap.size = N) (hy : a.eval q = .agg (scCells x sv).toArray) (hc : Hid (c.size = 3))
    (h : wpList Tryd.prog ops Q rest (a.put d undef) (w.alloc (.cells (scCells x sv).toArray 27))) : wpList Tryd.prog ops Q (⟨d, .store 27 p q, ty, pos, af, none⟩ :: rest) a (w.alloc (.cells c 27)) :=
  wpList_storeNew hx hN hy sc_info (hc.out.trans rfl) (sc_one x h1) h
theorem sc_put (g : Nat) (x : Sc) (sv : Value) (h1 : sv.oneCell' = true) (hx : a.eval p = .pointer (some ⟨g, 0, none⟩)) (hy : a.eval q = .agg (scCells x sv).toArray) {old : Array Value} {t' : TypeId} (hg : w.heap[g]? = some (.cells old t' (0, 0))) (hs : Hid (old.size = 3))
    (h : wpList Tryd.prog ops Q rest (a.put d undef) (w.setRow g (scCells x sv).toArray)) : wpList Tryd.prog ops Q (⟨d, .store 27 p q, ty, pos, af, none⟩ :: rest) a w :=
  wpList_storeOld g _ hx hy hg sc_info (hs.out.trans rfl) (sc_one x h1) h
end

end Go.Proofs.YthineckpociomaaDoor

namespace Go.Proofs.YthineckpociomaaDoor
open Go.RowKit Saw

set_option maxRecDepth 100000 in
set_option maxHeartbeats 1000000 in
theorem sound_any (x : Stg) (w : World) : Calls Tryd.prog 33 #[.agg #[.int .i64 x.below, .int .i64 x.ticks, .int .i64 x.temp, .int .i64 x.dep]] w (BoolB (soundP x) w) := by
  go_enter Tryd.func33, Tryd.ntmps33
  go_wp2
  all_goals
    go_ret
    refine ⟨ret_bool ?_, (Below.refl _ _).alloc (Nat.le_refl _) _⟩
    rw [Bool.eq_iff_iff]; simp [soundP]; omega

def EndsPost (r : Int × Bool) (w : World) (e : Ending) (w' : World) : Prop := e = .returned (.tuple #[.int .i64 r.1, .bool r.2]) ∧ Below w.heap.size w w'

theorem endsSc_out {s : Sc} {stage ticks mean : Int} (h : stage < 0 ∨ (s.stages.length : Int) ≤ stage) : endsSc s stage ticks mean = (0, false) := by rw [endsSc, if_pos h]
theorem endsSc_in {s : Sc} {k : Nat} {x : Stg} {ticks mean : Int} (h : s.stages[k]? = some x) : endsSc s k ticks mean = if (0 < x.below ∧ mean ≤ x.below) ∨ (0 < x.ticks ∧ x.ticks ≤ ticks) then ((k : Int) + 1, true) else ((k : Int), false) := by
  have hk := (List.getElem?_eq_some_iff.1 h).1
  have hg : s.stages.getD (k : Int).toNat Stg.zero = x := by rw [Int.toNat_natCast, List.getD_eq_getElem?_getD, h]; rfl
  rw [endsSc, if_neg (by omega), hg]

set_option maxRecDepth 100000 in
set_option maxHeartbeats 1000000 in
theorem ends_any (s : Sc) (A : Option Addr) (c : Nat) (stage ticks mean : Int) (w : World) (hrd : RdSt w w.heap.size (.slice A s.stages.length c) s.stages) :
    Calls Tryd.prog 43 #[.agg #[.string (str s.name), .int .i64 s.ramp, .slice A s.stages.length c], .int .i64 stage, .int .i64 ticks, .int .i64 mean] w (EndsPost (endsSc s stage ticks mean) w) := by
  obtain ⟨_, _, he, hc, hml⟩ := hrd.form
  clear he hc
  unfold maxLen at hml
  by_cases h1 : stage < 0
  · rw [endsSc_out (.inl h1)]
    clear hrd
    go_enter Tryd.func43, Tryd.ntmps43
    go_wp2_with fail
    go_ret2
    exact ⟨rfl, (Below.refl _ _).alloc (Nat.le_refl _) _⟩
  · by_cases h2 : (s.stages.length : Int) ≤ stage
    · rw [endsSc_out (.inr h2)]
      clear hrd
      go_enter Tryd.func43, Tryd.ntmps43
      go_wp2_with fail
      go_ret2
      exact ⟨rfl, (Below.refl _ _).alloc (Nat.le_refl _) _⟩
    · obtain ⟨k, rfl⟩ : ∃ k : Nat, stage = k := ⟨stage.toNat, by omega⟩
      have hk : k < s.stages.length := by omega
      have hx : s.stages[k]? = some s.stages[k] := List.getElem?_eq_getElem hk
      obtain ⟨x, hxe⟩ : ∃ x, s.stages[k] = x := ⟨_, rfl⟩
      rw [hxe] at hx
      rw [endsSc_in hx]
      obtain ⟨b, off, rfl, hbl, q0, q1, q2, q3⟩ := RdSt.at_ hrd hx
      clear hxe hx hrd h1
      by_cases h3 : (0 < x.below ∧ mean ≤ x.below) ∨ (0 < x.ticks ∧ x.ticks ≤ ticks)
      · rw [if_pos h3]
        go_enter Tryd.func43, Tryd.ntmps43
        go_wp2
        all_goals first
          | omega
          | (go_ret2; exact ⟨rfl, ((Below.refl _ _).alloc (Nat.le_refl _) _).alloc (by rw [World.size_alloc]; omega) _⟩)
      · rw [if_neg h3]
        go_enter Tryd.func43, Tryd.ntmps43
        go_wp2
        all_goals first
          | omega
          | (go_ret2; exact ⟨rfl, ((Below.refl _ _).alloc (Nat.le_refl _) _).alloc (by rw [World.size_alloc]; omega) _⟩)

end Go.Proofs.YthineckpociomaaDoor

namespace Saw
theorem all_drop {l : List Stg} {k : Nat} {x : Stg} (h : l[k]? = some x) : (l.drop k).all soundP = (soundP x && (l.drop (k + 1)).all soundP) := by
  obtain ⟨hk, hn⟩ := List.getElem?_eq_some_iff.1 h
  rw [List.drop_eq_getElem_cons hk, hn, List.all_cons]
end Saw
namespace Go.Proofs.YthineckpociomaaDoor
open Go.RowKit Saw

set_option maxRecDepth 100000 in
set_option maxHeartbeats 1000000 in
theorem scCheck_big (s : Sc) (A : Option Addr) (c : Nat) (w : World) (hrd : RdSt w w.heap.size (.slice A s.stages.length c) s.stages) (hnm : s.name.length ≤ 9223372036854775807) :
    Calls Tryd.prog 18 #[.agg #[.string (str s.name), .int .i64 s.ramp, .slice A s.stages.length c]] w (IntB (checkSc s) w) := by
  obtain ⟨_, _, he, hc, hml⟩ := hrd.form
  clear he hc
  unfold maxLen at hml
  obtain ⟨r, hr⟩ : ∃ r, checkSc s = r := ⟨_, rfl⟩
  rw [hr]
  unfold checkSc at hr
  have HRD := Lib.hid hrd
  clear hrd
  have HNL := Lib.hid hnm
  clear hnm
  go_enter Tryd.func18, Tryd.ntmps18
  go_wp2_with fail
  refine (isName_any _ _ (by rw [size_str]; have := HNL.out; omega)).mono ?_
  rintro e w1 ⟨he, rfl⟩
  rw [bts_str] at he
  cases hn : isNameP s.name with
  | false =>
    rw [hn] at he
    subst he
    rw [if_pos hn] at hr
    subst hr
    clear hn
    go_wp2_with fail
    go_ret
    exact ⟨rfl, (Below.refl _ _).alloc (Nat.le_refl _) _⟩
  | true =>
    rw [hn] at he
    subst he
    rw [if_neg (by rw [hn]; decide)] at hr
    clear hn
    by_cases h1 : s.ramp < 1
    · rw [if_pos (.inl h1)] at hr
      subst hr
      go_wp2_with fail
      go_ret
      exact ⟨rfl, (Below.refl _ _).alloc (Nat.le_refl _) _⟩
    · by_cases h2 : 1200 < s.ramp
      · rw [if_pos (.inr h2)] at hr
        subst hr
        go_wp2_with fail
        go_ret
        exact ⟨rfl, (Below.refl _ _).alloc (Nat.le_refl _) _⟩
      · rw [if_neg (by omega)] at hr
        by_cases h3 : s.stages.length = 0
        · rw [if_pos h3] at hr
          subst hr
          have h3' : ((s.stages.length : Int) == 0) = true := by rw [beq_iff_eq]; omega
          clear h3
          go_wp2_with fail
          go_ret
          exact ⟨rfl, (Below.refl _ _).alloc (Nat.le_refl _) _⟩
        · rw [if_neg h3] at hr
          have h3' : ((s.stages.length : Int) == 0) = false := by rw [beq_eq_false_iff_ne]; omega
          by_cases h4 : 12 < s.stages.length
          · rw [if_pos h4] at hr
            subst hr
            go_wp2_with fail
            go_ret
            exact ⟨rfl, (Below.refl _ _).alloc (Nat.le_refl _) _⟩
          · rw [if_neg h4] at hr
            have HR := Lib.hid hr
            clear hr
            go_wp2_with fail
            go_loopw [28] (fun i wr => ∃ k : Nat, k ≤ s.stages.length ∧ i = .int .i64 k ∧ (if (s.stages.drop k).all soundP then (0 : Int) else 9) = r ∧ Below w.heap.size w wr) (fun i _ => s.stages.length - (intOf i).toNat)
            case atStart => exact ⟨0, by omega, rfl, by rw [List.drop_zero]; exact HR.out, (Below.refl _ _).alloc (Nat.le_refl _) _⟩
            case round =>
              obtain ⟨k, hk, rfl, hrk, hb⟩ := hrel
              have HB := Lib.hid hb
              have hsz := hb.size
              clear hb
              by_cases hlt : k < s.stages.length
              · have hx : s.stages[k]? = some s.stages[k] := List.getElem?_eq_getElem hlt
                obtain ⟨x, hxe⟩ : ∃ x, s.stages[k] = x := ⟨_, rfl⟩
                rw [hxe] at hx
                rw [all_drop hx] at hrk
                obtain ⟨b, off, rfl, hbl, q0, q1, q2, q3⟩ := RdSt.at_ (HRD.out.below HB.out) hx
                have HK := Lib.hid hrk
                clear hxe hx hrk
                go_wp2_with fail
                refine (sound_any _ _).mono ?_
                rintro e w2 ⟨he, hb2⟩
                have HB2 := Lib.hid ((HB.out.alloc hsz _).trans (hb2.mono (by rw [World.size_alloc]; omega)))
                clear hb2
                cases hs : soundP x with
                | true =>
                  rw [hs] at he
                  subst he
                  have HN := Lib.hid (show (if (s.stages.drop (k + 1)).all soundP then (0 : Int) else 9) = r by have h9 := HK.out; rw [hs, Bool.true_and] at h9; exact h9)
                  clear hs
                  go_wp2_with fail
                  exact ⟨⟨k + 1, by omega, by go_num, HN.out, HB2.out⟩, by simp [intOf]; omega⟩
                | false =>
                  rw [hs] at he
                  subst he
                  have hr9 : r = 9 := by have h9 := HK.out; rw [hs, Bool.false_and, if_neg (by decide)] at h9; exact h9.symm
                  subst hr9
                  clear hs
                  go_wp2_with fail
                  go_ret
                  exact ⟨rfl, HB2.out⟩
              · have hr0 : r = 0 := by
                  rw [List.drop_eq_nil_of_le (by omega), List.all_nil, if_pos rfl] at hrk
                  exact hrk.symm
                subst hr0
                clear hrk HR
                go_wp2_with fail
                go_ret
                exact ⟨rfl, HB.out⟩
theorem scCheck_any (s : Sc) (A : Option Addr) (c : Nat) (w : World) (hrd : RdSt w w.heap.size (.slice A s.stages.length c) s.stages) (hnm : s.name.length ≤ 1000000) :
    Calls Tryd.prog 18 #[.agg #[.string (str s.name), .int .i64 s.ramp, .slice A s.stages.length c]] w (IntB (checkSc s) w) := scCheck_big s A c w hrd (by omega)
end Go.Proofs.YthineckpociomaaDoor

namespace Go.Proofs.YthineckpociomaaDoor
open Go.RowKit Saw

def kspCells (x : Sp) : List Value := [.string (str x.name), .int .i64 x.green, .int .i64 x.fast, .int .i64 x.slow, .int .i64 x.safe, .int .i64 x.grad, .int .i64 x.crack, .int .i64 x.temp, .int .i64 x.depress, .int .i64 x.density, .int .i64 x.stiff, .int .i64 x.knots, .int .i64 x.shrink]
def TargetPost (r : Int × Int) (w : World) (e : Ending) (w' : World) : Prop := e = .returned (.agg #[.int .i64 r.1, .int .i64 r.2]) ∧ Below w.heap.size w w'
theorem targetP_out {s : Sc} {stage t d : Int} (h : stage < 0 ∨ (s.stages.length : Int) ≤ stage) : targetP s stage t d = (0, 0) := by rw [targetP, if_pos h]
theorem targetP_in {s : Sc} {k : Nat} {x : Stg} {t d : Int} (h : s.stages[k]? = some x) : targetP s k t d = (min x.temp t, min x.dep d) := by
  have hk := (List.getElem?_eq_some_iff.1 h).1
  have hg : s.stages.getD (k : Int).toNat Stg.zero = x := by rw [Int.toNat_natCast, List.getD_eq_getElem?_getD, h]; rfl
  rw [targetP, if_neg (by omega), hg]

set_option maxRecDepth 100000 in
set_option maxHeartbeats 1000000 in
theorem target_any (s : Sc) (A : Option Addr) (c : Nat) (stage : Int) (y : Sp) (w : World) (hrd : RdSt w w.heap.size (.slice A s.stages.length c) s.stages) :
    Calls Tryd.prog 38 #[.agg #[.string (str s.name), .int .i64 s.ramp, .slice A s.stages.length c], .int .i64 stage, .agg #[.string (str y.name), .int .i64 y.green, .int .i64 y.fast, .int .i64 y.slow, .int .i64 y.safe, .int .i64 y.grad, .int .i64 y.crack, .int .i64 y.temp, .int .i64 y.depress, .int .i64 y.density, .int .i64 y.stiff, .int .i64 y.knots, .int .i64 y.shrink]] w (TargetPost (targetP s stage y.temp y.depress) w) := by
  obtain ⟨_, _, he, hc, hml⟩ := hrd.form
  clear he hc
  unfold maxLen at hml
  by_cases h1 : stage < 0
  · rw [targetP_out (.inl h1)]
    clear hrd
    go_enter Tryd.func38, Tryd.ntmps38
    go_wp2_with fail
    refine bodyPost_ret (v := .agg #[.int .i64 0, .int .i64 0]) (by simp [results, Tryd.results38, go_sem]) rfl ⟨rfl, ?_⟩
    exact (((Below.refl _ _).alloc (Nat.le_refl _) _).alloc (by rw [World.size_alloc]; omega) _).alloc (by rw [World.size_alloc, World.size_alloc]; omega) _
  · by_cases h2 : (s.stages.length : Int) ≤ stage
    · rw [targetP_out (.inr h2)]
      clear hrd
      go_enter Tryd.func38, Tryd.ntmps38
      go_wp2_with fail
      refine bodyPost_ret (v := .agg #[.int .i64 0, .int .i64 0]) (by simp [results, Tryd.results38, go_sem]) rfl ⟨rfl, ?_⟩
      exact (((Below.refl _ _).alloc (Nat.le_refl _) _).alloc (by rw [World.size_alloc]; omega) _).alloc (by rw [World.size_alloc, World.size_alloc]; omega) _
    · obtain ⟨k, rfl⟩ : ∃ k : Nat, stage = k := ⟨stage.toNat, by omega⟩
      have hk : k < s.stages.length := by omega
      have hx : s.stages[k]? = some s.stages[k] := List.getElem?_eq_getElem hk
      obtain ⟨x, hxe⟩ : ∃ x, s.stages[k] = x := ⟨_, rfl⟩
      rw [hxe] at hx
      rw [targetP_in hx]
      obtain ⟨b, off, rfl, hbl, q0, q1, q2, q3⟩ := RdSt.at_ hrd hx
      have hb1 : b < w.heap.size + 1 := by omega
      have hb2 : b < w.heap.size + 1 + 1 := by omega
      have hb3 : b < w.heap.size + 1 + 1 + 1 := by omega
      clear hxe hx hrd h1
      go_enter Tryd.func38, Tryd.ntmps38
      go_wp2_with fail
      all_goals
        refine bodyPost_ret (v := .agg #[.int .i64 (min x.temp y.temp), .int .i64 (min x.dep y.depress)]) (by simp [results, Tryd.results38, go_sem] <;> omega) rfl ⟨rfl, ?_⟩
        exact ((((Below.refl _ _).alloc (Nat.le_refl _) _).alloc (by rw [World.size_alloc]; omega) _).alloc (by rw [World.size_alloc, World.size_alloc]; omega) _).alloc (by rw [World.size_alloc, World.size_alloc, World.size_alloc]; omega) _

end Go.Proofs.YthineckpociomaaDoor
