/-
  Products in memory; the contracts of product's isSize, grow, Green, Volume, Find.
-/
import Derived.Test.YtokgonpeolppnaaDoorIdent
import Derived.Test.YtokgonpeolppnaaDoorBig
import Derived.Test.YtokgonpeolppnaaDoorPrP
namespace Go.Proofs.YtokgonpeolppnaaDoor
open Go.RowKit Saw

def ints (l : List Int) : List Value := l.map fun n => .int .i64 n
/-- The slice value v reads as the numbers l; it lies below block B. -/
def RdI (w : World) (B : Nat) (v : Value) (l : List Int) : Prop := Rd w B 1 v l.length (ints l)
theorem RdI.form {w : World} {B : Nat} {v : Value} {l : List Int} (h : RdI w B v l) : ∃ A c, v = .slice A l.length c ∧ l.length ≤ c ∧ l.length ≤ maxLen := by
  obtain ⟨_, h2, A, c, rfl, hc, _⟩ := h
  exact ⟨A, c, rfl, hc, h2⟩
theorem RdI.at_ {w : World} {B : Nat} {A : Option Addr} {n c : Nat} {l : List Int} (h : RdI w B (.slice A n c) l) {i : Nat} {x : Int} (hx : l[i]? = some x) :
    ∃ b off, A = some ⟨b, off, none⟩ ∧ b < B ∧ w.cell? ⟨b, off + i, none⟩ = some (.int .i64 x) := by
  obtain ⟨_, _, A', c', he, _, h3⟩ := h
  injection he with h1 h2 h4
  subst h1
  have hi : i < l.length := (List.getElem?_eq_some_iff.1 hx).1
  obtain ⟨b, off, rfl, hb, hcell⟩ := h3 (by omega)
  exact ⟨b, off, rfl, hb, hcell i _ (by rw [ints, List.getElem?_map, hx]; rfl)⟩

def prCells (x : Pr) (lv pv : Value) : List Value := [.string (str x.name), .int .i64 x.thick, .int .i64 x.width, .int .i64 x.allow, .int .i64 x.wane, lv, pv]
def prsCells (m : List (Pr × Value × Value)) : List Value := m.flatMap fun y => prCells y.1 y.2.1 y.2.2
/-- The slice value v reads as the products l; it, and their lengths and prices, lie below block B. -/
def RdPr (w : World) (B : Nat) (v : Value) (l : List Pr) : Prop := ∃ m : List (Pr × Value × Value), m.map (·.1) = l ∧ Rd w B 7 v m.length (prsCells m) ∧ ∀ y ∈ m, RdI w B y.2.1 y.1.lens ∧ RdI w B y.2.2 y.1.prices
theorem prs_at : ∀ (m : List (Pr × Value × Value)) (i : Nat) (y : Pr × Value × Value), m[i]? = some y → ∀ j, j < 7 → (prsCells m)[i * 7 + j]? = (prCells y.1 y.2.1 y.2.2)[j]?
  | [], i, y, h, _, _ => by simp at h
  | z :: r, 0, y, h, j, hj => by
    simp only [List.getElem?_cons_zero, Option.some.injEq] at h
    subst h
    rw [prsCells, List.flatMap_cons, List.getElem?_append_left (by simp [prCells]; omega), Nat.zero_mul, Nat.zero_add]
  | z :: r, i + 1, y, h, j, hj => by
    simp only [List.getElem?_cons_succ] at h
    have e : (prCells z.1 z.2.1 z.2.2).length = 7 := rfl
    rw [prsCells, List.flatMap_cons, List.getElem?_append_right (by rw [e]; omega), e, ← prs_at r i y h j hj, prsCells]
    congr 1
    omega
theorem prsCells_length (m : List (Pr × Value × Value)) : (prsCells m).length = m.length * 7 := by
  induction m with
  | nil => rfl
  | cons y r ih => rw [prsCells, List.flatMap_cons, List.length_append, ← prsCells, ih]; simp [prCells]; omega
section
variable {w w' : World} {B : Nat} {v : Value} {l : List Pr}
theorem RdI.below {ns : List Int} (h : RdI w B v ns) (hb : Below B w w') : RdI w' B v ns := Rd.below h hb
theorem RdPr.below (h : RdPr w B v l) (hb : Below B w w') : RdPr w' B v l := by
  obtain ⟨m, h1, h2, h3⟩ := h
  exact ⟨m, h1, h2.below hb, fun y hy => ⟨(h3 y hy).1.below hb, (h3 y hy).2.below hb⟩⟩
theorem RdI.more {B' : Nat} {ns : List Int} (h : RdI w B v ns) (hB : B ≤ B') : RdI w B' v ns := Rd.more h hB
theorem RdPr.more {B' : Nat} (h : RdPr w B v l) (hB : B ≤ B') : RdPr w B' v l := by
  obtain ⟨m, h1, h2, h3⟩ := h
  exact ⟨m, h1, h2.more hB, fun y hy => ⟨(h3 y hy).1.more hB, (h3 y hy).2.more hB⟩⟩
theorem RdPr.next (h : RdPr w w.heap.size v l) (hb : Below w.heap.size w w') : RdPr w' w'.heap.size v l := (h.below hb).more hb.size
theorem RdI.next {ns : List Int} (h : RdI w w.heap.size v ns) (hb : Below w.heap.size w w') : RdI w' w'.heap.size v ns := (h.below hb).more hb.size
theorem RdPr.form (h : RdPr w B v l) : ∃ A c, v = .slice A l.length c ∧ l.length ≤ c ∧ l.length ≤ maxLen := by
  obtain ⟨m, rfl, ⟨_, h2, A, c, rfl, hc, _⟩, _⟩ := h
  rw [List.length_map]
  exact ⟨A, c, rfl, hc, h2⟩
end
theorem RdPr.at_ {w : World} {B : Nat} {A : Option Addr} {n c : Nat} {l : List Pr} (h : RdPr w B (.slice A n c) l) {i : Nat} {x : Pr} (hx : l[i]? = some x) :
    ∃ b off A1 c1 A2 c2, A = some ⟨b, off, none⟩ ∧ b < B ∧ x.lens.length ≤ maxLen ∧ x.prices.length ≤ maxLen ∧ RdI w B (.slice A1 x.lens.length c1) x.lens ∧ RdI w B (.slice A2 x.prices.length c2) x.prices ∧
      w.cell? ⟨b, off + i * 7, none⟩ = some (.string (str x.name)) ∧ w.cell? ⟨b, off + i * 7 + 1, none⟩ = some (.int .i64 x.thick) ∧ w.cell? ⟨b, off + i * 7 + 2, none⟩ = some (.int .i64 x.width) ∧ w.cell? ⟨b, off + i * 7 + 3, none⟩ = some (.int .i64 x.allow) ∧ w.cell? ⟨b, off + i * 7 + 4, none⟩ = some (.int .i64 x.wane) ∧ w.cell? ⟨b, off + i * 7 + 5, none⟩ = some (.slice A1 x.lens.length c1) ∧ w.cell? ⟨b, off + i * 7 + 6, none⟩ = some (.slice A2 x.prices.length c2) := by
  obtain ⟨m, rfl, ⟨_, _, A', c', he, _, h3⟩, h4⟩ := h
  injection he with h1 h2 h5
  subst h1
  rw [List.getElem?_map] at hx
  cases hy : m[i]? with
  | none => rw [hy] at hx; cases hx
  | some y =>
    rw [hy] at hx
    injection hx with hx
    subst hx
    have hi : i < m.length := (List.getElem?_eq_some_iff.1 hy).1
    obtain ⟨b, off, rfl, hb, hcell⟩ := h3 (by omega)
    obtain ⟨r1, r2⟩ := h4 y (List.mem_of_getElem? hy)
    obtain ⟨A1, c1, e1, _, m1⟩ := r1.form
    obtain ⟨A2, c2, e2, _, m2⟩ := r2.form
    have hc : ∀ j, j < 7 → ∀ u, (prCells y.1 y.2.1 y.2.2)[j]? = some u → w.cell? ⟨b, off + (i * 7 + j), none⟩ = some u := fun j hj u hu => hcell _ _ ((prs_at m i y hy j hj).trans hu)
    rw [e1] at r1
    rw [e2] at r2
    rw [e1, e2] at hc
    exact ⟨b, off, A1, c1, A2, c2, rfl, hb, m1, m2, r1, r2, hc 0 (by omega) _ rfl, hc 1 (by omega) _ rfl, hc 2 (by omega) _ rfl, hc 3 (by omega) _ rfl, hc 4 (by omega) _ rfl, hc 5 (by omega) _ rfl, hc 6 (by omega) _ rfl⟩

theorem RdPr.take {w : World} {B b off n c : Nat} {l : List Pr} (h : RdPr w B (.slice (some ⟨b, off, none⟩) n c) l) (k : Nat) (hk : k ≤ l.length) :
    RdPr w B (.slice (some ⟨b, off, none⟩) k c) (l.take k) := by
  obtain ⟨m, rfl, ⟨h1, h2, A', c', he, hc, h3⟩, h4⟩ := h
  injection he with e1 e2 e3
  subst e1 e2 e3
  rw [List.length_map] at hk
  have hl : (m.take k).length = k := by rw [List.length_take]; omega
  refine ⟨m.take k, by rw [List.map_take], ⟨prsCells_length _, by omega, _, c, by rw [hl], by omega, fun hn => ?_⟩, fun y hy => h4 y (List.mem_of_mem_take hy)⟩
  obtain ⟨b', off', hA, hb, hcell⟩ := h3 (by omega)
  refine ⟨b', off', hA, hb, fun j u hu => hcell j u ?_⟩
  rw [← List.take_append_drop k m, prsCells, List.flatMap_append, ← prsCells]
  rw [List.getElem?_append_left (List.getElem?_eq_some_iff.1 hu).1]
  exact hu

theorem str_eqb (a b : List UInt8) : ((str a).toList == (str b).toList) = (a == b) := by rw [toList_bts, toList_bts, bts_str, bts_str]

set_option maxHeartbeats 400000 in
theorem isSize_any (n : Int) (w : World) : Calls Tryd.prog 35 #[.int .i64 n] w fun e w' => e = .returned (.bool (sizeOkP n)) ∧ w = w' := by
  go_enter Tryd.func35, Tryd.ntmps35
  go_wp2
  all_goals
    go_ret
    refine ⟨ret_bool ?_, rfl⟩
    rw [Bool.eq_iff_iff]; simp [sizeOkP]; omega

theorem mul_bd {a b x y : Int} (h0 : 0 ≤ a) (h1 : a ≤ x) (h2 : 0 ≤ b) (h3 : b ≤ y) : 0 ≤ a * b ∧ a * b ≤ x * y :=
  ⟨Int.mul_nonneg h0 h2, Int.mul_le_mul h1 h3 h2 (Int.le_trans h0 h1)⟩

set_option maxHeartbeats 400000 in
theorem grow_any (n a : Int) (w : World) (h1 : sizeOkP n = true) (h2 : 0 ≤ a) (h3 : a ≤ 200) : Calls Tryd.prog 36 #[.int .i64 n, .int .i64 a] w fun e w' => e = .returned (.int .i64 (growP n a)) ∧ w = w' := by
  simp only [sizeOkP, Bool.and_eq_true, decide_eq_true_eq] at h1
  have hm := mul_bd (a := n) (b := 1000 + a) (x := 600) (y := 1200) (by omega) (by omega) (by omega) (by omega)
  obtain ⟨p, hp⟩ : ∃ p, n * (1000 + a) = p := ⟨_, rfl⟩
  have hg : growP n a = (p + 999) / 1000 := by rw [growP, hp]
  rw [hp] at hm
  have ht : (p + 999).tdiv 1000 = (p + 999) / 1000 := Int.tdiv_eq_ediv_of_nonneg (by omega)
  rw [hg]
  clear hg
  go_enter Tryd.func36, Tryd.ntmps36
  go_wp2
  go_ret
  exact ⟨rfl, rfl⟩

end Go.Proofs.YtokgonpeolppnaaDoor
