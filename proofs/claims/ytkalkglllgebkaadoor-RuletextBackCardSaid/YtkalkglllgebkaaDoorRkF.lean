/-
  Plain: the value of an expression over features, its check, the grade of a table; small functions of rule, feature.Get, rule.names, slices.Contains of strings.
  The contracts of rule.names and rule.combine.
  The contracts of rule.combine and rule.value.
  The contract of rule.value.
  The contract of rule.visit, for well-formed expressions.
  The contracts of rule.Check, rule.CheckRules and rule.Grade, for tables of well-formed rules.
-/
import Derived.Test.YtkalkglllgebkaaDoorRyD
import Derived.BigQuiet
import Derived.Deep.QuietTactic
import Derived.OwnWalk
import Derived.Test.YtkalkglllgebkaaDoorRyF
namespace Saw
/-- A feature. -/
structure Ft where
  name : List UInt8
  n : Int
def limP (n : Int) : Int × Int := if -1099511627776 ≤ n ∧ n ≤ 1099511627776 then (n, 0) else (0, 9)
def getP : List Ft → List UInt8 → Int × Bool
  | [], _ => (0, false)
  | x :: r, t => if x.name = t then (x.n, true) else getP r t
def magP (n : Int) : Int := if n < 0 then -n else n
def truP (b : Bool) : Int := if b then 1 else 0
def combP (op a b : Int) : Int × Int :=
  if op = 3 then limP (a + b) else if op = 4 then limP (a - b)
  else if op = 5 then (if a ≠ 0 ∧ 1099511627776 / magP a < magP b then (0, 9) else (a * b, 0))
  else if op = 6 then (truP (a == b), 0) else if op = 7 then (truP (decide (a < b)), 0) else (truP (decide (a ≤ b)), 0)
def rawV (f : List Ft) (op n : Int) (nm : List UInt8) (vs : List (Int × Int)) : Int × Int :=
  if op = 1 then limP n else if op = 2 then limP (getP f nm).1
  else if (vs.getD 0 (0, 0)).2 ≠ 0 then (0, (vs.getD 0 (0, 0)).2)
  else if op = 9 then (1 - (vs.getD 0 (0, 0)).1, 0)
  else if op = 10 then (if (vs.getD 0 (0, 0)).1 = 0 then ((vs.getD 0 (0, 0)).1, 0) else vs.getD 1 (0, 0))
  else if op = 11 then (if (vs.getD 0 (0, 0)).1 = 1 then ((vs.getD 0 (0, 0)).1, 0) else vs.getD 1 (0, 0))
  else if (vs.getD 1 (0, 0)).2 ≠ 0 then (0, (vs.getD 1 (0, 0)).2)
  else combP op (vs.getD 0 (0, 0)).1 (vs.getD 1 (0, 0)).1
def vals (f : List Ft) : Fo → List (Int × Int)
  | .nil => []
  | .cons o n m k r => rawV f o n m (vals f k) :: vals f r
def valE (f : List Ft) (x : Ex) : Int × Int := rawV f x.op x.n x.name (vals f x.kids)
theorem limP_bd (n : Int) : -1099511627776 ≤ (limP n).1 ∧ (limP n).1 ≤ 1099511627776 := by
  unfold limP
  split
  · rename_i h; exact h
  · exact ⟨by decide, by decide⟩
theorem truP_bd (b : Bool) : 0 ≤ truP b ∧ truP b ≤ 1 := by cases b <;> decide
theorem mul_bd {a b : Int} (h : ¬ (a ≠ 0 ∧ 1099511627776 / magP a < magP b)) : -1099511627776 ≤ a * b ∧ a * b ≤ 1099511627776 := by
  by_cases ha : a = 0
  · subst ha; rw [Int.zero_mul]; exact ⟨by decide, by decide⟩
  · have h1 : magP b ≤ 1099511627776 / magP a := Int.not_lt.1 fun h2 => h ⟨ha, h2⟩
    have hp : 0 < magP a := by unfold magP; split <;> omega
    have h2 : magP b * magP a ≤ 1099511627776 := Int.le_trans (Int.mul_le_mul_of_nonneg_right h1 (Int.le_of_lt hp)) (Int.ediv_mul_le _ (Int.ne_of_gt hp))
    have h3 : a * b = magP b * magP a ∨ a * b = -(magP b * magP a) := by
      unfold magP
      split <;> split
      · left; rw [Int.neg_mul_neg, Int.mul_comm]
      · right; rw [Int.neg_mul, Int.neg_neg, Int.mul_comm]
      · right; rw [Int.mul_neg, Int.neg_neg, Int.mul_comm]
      · left; rw [Int.mul_comm]
    have h4 : 0 ≤ magP b * magP a := Int.mul_nonneg (by unfold magP; split <;> omega) (Int.le_of_lt hp)
    rcases h3 with h3 | h3 <;> rw [h3] <;> omega
theorem combP_bd (op a b : Int) : -1099511627776 ≤ (combP op a b).1 ∧ (combP op a b).1 ≤ 1099511627776 := by
  unfold combP
  repeat' split
  · exact limP_bd _
  · exact limP_bd _
  · exact ⟨by decide, by decide⟩
  · rename_i h; exact mul_bd h
  · have := truP_bd (a == b); exact ⟨by omega, by omega⟩
  · have := truP_bd (decide (a < b)); exact ⟨by omega, by omega⟩
  · have := truP_bd (decide (a ≤ b)); exact ⟨by omega, by omega⟩
theorem valE_one (f : List Ft) (a : Ex) : valE f (one 9 a) = if (valE f a).2 ≠ 0 then (0, (valE f a).2) else (1 - (valE f a).1, 0) := rfl
theorem valE_two (f : List Ft) (o : Nat) (a b : Ex) (h : 3 ≤ o) (h9 : o ≠ 9) : valE f (two o a b) = if (valE f a).2 ≠ 0 then (0, (valE f a).2)
    else if (o : Int) = 10 then (if (valE f a).1 = 0 then ((valE f a).1, 0) else valE f b)
    else if (o : Int) = 11 then (if (valE f a).1 = 1 then ((valE f a).1, 0) else valE f b)
    else if (valE f b).2 ≠ 0 then (0, (valE f b).2) else combP o (valE f a).1 (valE f b).1 := by
  show rawV f o 0 [] [valE f a, valE f b] = _
  rw [rawV, if_neg (by omega), if_neg (by omega)]
  rw [if_neg (show ¬ (o : Int) = 9 by omega)]
  rfl

/-! ### The check -/
def condP (op : Int) : Bool := decide (6 ≤ op) && decide (op ≤ 11)
def takesC (op : Int) : Bool := op == 9 || op == 10 || op == 11
/-- The first error of a list. -/
def firstE : List Int → Int
  | [] => 0
  | e :: r => if e ≠ 0 then e else firstE r
def rawK (ns : List (List UInt8)) (op : Int) (nm : List UInt8) (ks : List Ex) (es : List Int) : Int :=
  if firstE es ≠ 0 then firstE es else if op = 2 ∧ ¬ nm ∈ ns then 8
  else if ks.all (fun a => condP a.op == takesC op) = true then 0 else 27
def visF (ns : List (List UInt8)) : Fo → List Int
  | .nil => []
  | .cons o _ m k r => rawK ns o m k.toList (visF ns k) :: visF ns r
def visE (ns : List (List UInt8)) (x : Ex) : Int := rawK ns x.op x.name x.kids.toList (visF ns x.kids)
theorem visF_map (ns : List (List UInt8)) : ∀ f : Fo, visF ns f = f.toList.map (visE ns)
  | .nil => rfl
  | .cons o n m k r => by rw [visF, Fo.toList, List.map_cons, visF_map ns r]; rfl
theorem firstE_at : ∀ (l : List Int) (k : Nat) (e : Int), (∀ x ∈ l.take k, x = 0) → l[k]? = some e → e ≠ 0 → firstE l = e
  | [], k, e, _, h, _ => by simp at h
  | x :: r, 0, e, _, h, he => by
    simp only [List.getElem?_cons_zero, Option.some.injEq] at h
    subst h
    rw [firstE, if_pos he]
  | x :: r, k + 1, e, hz, h, he => by
    rw [List.take_succ_cons] at hz
    rw [firstE, if_neg (by rw [hz x List.mem_cons_self]; decide)]
    exact firstE_at r k e (fun y hy => hz y (List.mem_cons_of_mem _ hy)) (by simpa using h) he
theorem firstE_zero : ∀ (l : List Int), (∀ x ∈ l, x = 0) → firstE l = 0
  | [], _ => rfl
  | x :: r, h => by rw [firstE, if_neg (by rw [h x List.mem_cons_self]; decide)]; exact firstE_zero r fun y hy => h y (List.mem_cons_of_mem _ hy)
def checkE (ns : List (List UInt8)) (x : Ex) : Int := if visE ns x ≠ 0 then visE ns x else if condP x.op = true then 0 else 27
def checkRs (ns : List (List UInt8)) (l : List Rl) : Int := firstE (l.map fun r => checkE ns r.when_)
/-- The grade of the first rule that holds, from the rule numbered k on. -/
def gradeL (f : List Ft) : Nat → List Rl → Int × Int × Int
  | _, [] => (0, -1, 0)
  | k, r :: l => if (valE f r.when_).2 ≠ 0 then (0, 0, (valE f r.when_).2) else if (valE f r.when_).1 = 1 then (r.grade, k, 0) else gradeL f (k + 1) l
def gradeP (l : List Rl) (f : List Ft) : Int × Int × Int :=
  if checkRs (f.map (·.name)) l ≠ 0 then (0, 0, checkRs (f.map (·.name)) l) else gradeL f 0 l
end Saw
namespace Go.Proofs.YtkalkglllgebkaaDoor
open Go.RowKit Saw Go.Sort

def ftCells (l : List Ft) : List Value := l.flatMap fun x => [.string (str x.name), .int .i64 x.n]
theorem ftCells_length (l : List Ft) : (ftCells l).length = l.length * 2 := by
  induction l with
  | nil => rfl
  | cons x r ih => rw [ftCells, List.flatMap_cons, List.length_append, ← ftCells, ih, List.length_cons]; simp only [List.length_cons, List.length_nil]; omega
theorem fts_at : ∀ (l : List Ft) (i : Nat) (x : Ft), l[i]? = some x → (ftCells l)[i * 2]? = some (.string (str x.name)) ∧ (ftCells l)[i * 2 + 1]? = some (.int .i64 x.n)
  | [], i, x, h => by simp at h
  | z :: r, 0, x, h => by
    simp only [List.getElem?_cons_zero, Option.some.injEq] at h
    subst h
    exact ⟨rfl, rfl⟩
  | z :: r, i + 1, x, h => by
    simp only [List.getElem?_cons_succ] at h
    have ih := fts_at r i x h
    rw [ftCells, List.flatMap_cons, show (i + 1) * 2 = i * 2 + 1 + 1 by omega]
    exact ih
/-- The slice value v reads as the features l. -/
def RdFt (w : World) (v : Value) (l : List Ft) : Prop := Rd w w.heap.size 2 v l.length (ftCells l) ∧ ∀ x ∈ l, -9223372036854775808 ≤ x.n ∧ x.n ≤ 9223372036854775807
theorem RdFt.next {w w' : World} {v : Value} {l : List Ft} (h : RdFt w v l) (hb : Below w.heap.size w w') : RdFt w' v l := ⟨h.1.next hb, h.2⟩
theorem RdFt.form {w : World} {v : Value} {l : List Ft} (h : RdFt w v l) : ∃ A c, v = .slice A l.length c ∧ l.length ≤ c ∧ l.length ≤ maxLen := by
  obtain ⟨⟨_, h2, A, c, rfl, hc, _⟩, _⟩ := h
  exact ⟨A, c, rfl, hc, h2⟩
theorem RdFt.at_ {w : World} {A : Option Addr} {n c : Nat} {l : List Ft} (h : RdFt w (.slice A n c) l) {i : Nat} {x : Ft} (hx : l[i]? = some x) :
    ∃ b off, A = some ⟨b, off, none⟩ ∧ b < w.heap.size ∧ w.cell? ⟨b, off + i * 2, none⟩ = some (.string (str x.name)) ∧ w.cell? ⟨b, off + i * 2 + 1, none⟩ = some (.int .i64 x.n) := by
  obtain ⟨⟨_, _, A', c', he, _, h3⟩, _⟩ := h
  injection he with h1 h2 h5
  subst h1
  have hi : i < l.length := (List.getElem?_eq_some_iff.1 hx).1
  obtain ⟨b, off, rfl, hb, hcell⟩ := h3 (by omega)
  obtain ⟨q0, q1⟩ := fts_at l i x hx
  exact ⟨b, off, rfl, hb, hcell _ _ q0, by rw [Nat.add_assoc]; exact hcell _ _ q1⟩
/-- The slice value v reads as the texts l. -/
def RdNs (w : World) (v : Value) (l : List (List UInt8)) : Prop := Rd w w.heap.size 1 v l.length (l.map fun x => .string (str x))
theorem RdNs.next {w w' : World} {v : Value} {l : List (List UInt8)} (h : RdNs w v l) (hb : Below w.heap.size w w') : RdNs w' v l := Rd.next h hb
theorem RdNs.form {w : World} {v : Value} {l : List (List UInt8)} (h : RdNs w v l) : ∃ A c, v = .slice A l.length c ∧ l.length ≤ c ∧ l.length ≤ maxLen := by
  obtain ⟨_, h2, A, c, rfl, hc, _⟩ := h
  exact ⟨A, c, rfl, hc, h2⟩
theorem RdNs.at_ {w : World} {A : Option Addr} {n c : Nat} {l : List (List UInt8)} (h : RdNs w (.slice A n c) l) {i : Nat} {x : List UInt8} (hx : l[i]? = some x) :
    ∃ b off, A = some ⟨b, off, none⟩ ∧ b < w.heap.size ∧ w.cell? ⟨b, off + i, none⟩ = some (.string (str x)) := by
  obtain ⟨_, _, A', c', he, _, h3⟩ := h
  injection he with h1 h2 h5
  subst h1
  have hi : i < l.length := (List.getElem?_eq_some_iff.1 hx).1
  obtain ⟨b, off, rfl, hb, hcell⟩ := h3 (by omega)
  exact ⟨b, off, rfl, hb, hcell _ _ (by rw [List.getElem?_map, hx]; rfl)⟩

set_option maxHeartbeats 400000 in
theorem bounded_any (n : Int) (w : World) : Calls Tryd.prog 97 #[.int .i64 n] w fun e w' => e = .returned (.bool (decide (-1099511627776 ≤ n ∧ n ≤ 1099511627776))) ∧ w' = w := by
  by_cases h1 : -1099511627776 ≤ n
  · by_cases h2 : n ≤ 1099511627776
    · go_enter Tryd.func97, Tryd.ntmps97
      go_wp2_with fail
      go_ret
      exact ⟨ret_bool (by simp [h1, h2]), rfl⟩
    · go_enter Tryd.func97, Tryd.ntmps97
      go_wp2_with fail
      go_ret
      exact ⟨ret_bool (by simp [h1, h2]), rfl⟩
  · go_enter Tryd.func97, Tryd.ntmps97
    go_wp2_with fail
    go_ret
    exact ⟨ret_bool (by simp; omega), rfl⟩

set_option maxHeartbeats 400000 in
theorem limited_any (n : Int) (w : World) : Calls Tryd.prog 83 #[.int .i64 n] w fun e w' => e = .returned (.tuple #[.int .i64 (limP n).1, .int .i64 (limP n).2]) ∧ w' = w := by
  have HB := Lib.hid (bounded_any n w)
  unfold limP
  obtain ⟨q, hq⟩ : ∃ q, decide (-1099511627776 ≤ n ∧ n ≤ 1099511627776) = q := ⟨_, rfl⟩
  rw [hq] at HB
  cases q with
  | true =>
    rw [if_pos (of_decide_eq_true hq)]
    clear hq
    go_enter Tryd.func83, Tryd.ntmps83
    go_wp2_with fail
    refine HB.out.mono ?_
    rintro e w1 ⟨he, rfl⟩
    subst he
    go_wp2_with fail
    go_ret2
    exact ⟨rfl, rfl⟩
  | false =>
    rw [if_neg (of_decide_eq_false hq)]
    clear hq
    go_enter Tryd.func83, Tryd.ntmps83
    go_wp2_with fail
    refine HB.out.mono ?_
    rintro e w1 ⟨he, rfl⟩
    subst he
    go_wp2_with fail
    go_ret2
    exact ⟨rfl, rfl⟩

set_option maxHeartbeats 400000 in
theorem magn_any (n : Int) (h : -9223372036854775807 ≤ n) (h2 : n ≤ 9223372036854775807) (w : World) : Calls Tryd.prog 98 #[.int .i64 n] w fun e w' => e = .returned (.int .i64 (magP n)) ∧ w' = w := by
  obtain ⟨m, hm⟩ : ∃ m, magP n = m := ⟨_, rfl⟩
  rw [hm]
  have hw : IntKind.i64.wrap (-n) = -n := by rw [IntKind.wrap_i64] <;> omega
  by_cases h0 : n < 0
  · have h1 : m = -n := by rw [← hm, magP, if_pos h0]
    subst h1
    clear hm
    have h9 : n < -n := by omega
    go_enter Tryd.func98, Tryd.ntmps98
    go_wp2_with fail
    rw [Int.max_eq_right (by omega)]
    go_ret
    exact ⟨rfl, rfl⟩
  · have h1 : m = n := by rw [← hm, magP, if_neg h0]
    subst h1
    clear hm
    go_enter Tryd.func98, Tryd.ntmps98
    go_wp2_with fail
    rw [Int.max_eq_left (by omega)]
    go_ret
    exact ⟨rfl, rfl⟩

set_option maxHeartbeats 400000 in
theorem truth_any (b : Bool) (w : World) : Calls Tryd.prog 99 #[.bool b] w fun e w' => e = .returned (.int .i64 (truP b)) ∧ w' = w := by
  cases b with
  | true =>
    go_enter Tryd.func99, Tryd.ntmps99
    go_wp2_with fail
    go_ret
    exact ⟨rfl, rfl⟩
  | false =>
    go_enter Tryd.func99, Tryd.ntmps99
    go_wp2_with fail
    go_ret
    exact ⟨rfl, rfl⟩

set_option maxHeartbeats 400000 in
theorem isCond_any (op : Int) (w : World) : Calls Tryd.prog 96 #[.int .i64 op] w fun e w' => e = .returned (.bool (condP op)) ∧ w' = w := by
  unfold condP
  by_cases h1 : 6 ≤ op
  · by_cases h2 : op ≤ 11
    · go_enter Tryd.func96, Tryd.ntmps96
      go_wp2_with fail
      go_ret
      exact ⟨ret_bool (by simp [h1, h2]), rfl⟩
    · go_enter Tryd.func96, Tryd.ntmps96
      go_wp2_with fail
      go_ret
      exact ⟨ret_bool (by simp [h1, h2]), rfl⟩
  · go_enter Tryd.func96, Tryd.ntmps96
    go_wp2_with fail
    go_ret
    exact ⟨ret_bool (by simp; omega), rfl⟩

set_option maxHeartbeats 400000 in
theorem takesC_any (op : Int) (w : World) : Calls Tryd.prog 111 #[.int .i64 op] w fun e w' => e = .returned (.bool (takesC op)) ∧ w' = w := by
  unfold takesC
  obtain ⟨p1, h1⟩ : ∃ p, (op == 9) = p := ⟨_, rfl⟩
  obtain ⟨p2, h2⟩ : ∃ p, (op == 10) = p := ⟨_, rfl⟩
  obtain ⟨p3, h3⟩ : ∃ p, (op == 11) = p := ⟨_, rfl⟩
  rw [h1, h2, h3]
  cases p1 with
  | true =>
    go_enter Tryd.func111, Tryd.ntmps111
    go_wp2_with fail
    go_ret
    exact ⟨rfl, rfl⟩
  | false =>
    cases p2 with
    | true =>
      go_enter Tryd.func111, Tryd.ntmps111
      go_wp2_with fail
      go_ret
      exact ⟨rfl, rfl⟩
    | false =>
      go_enter Tryd.func111, Tryd.ntmps111
      go_wp2_with fail
      go_ret
      exact ⟨rfl, rfl⟩

set_option maxHeartbeats 400000 in
theorem takes_any (op : Int) (w : World) : Calls Tryd.prog 109 #[.int .i64 op] w fun e w' => e = .returned (.int .i64 (takesP op)) ∧ w' = w := by
  obtain ⟨m, hm⟩ : ∃ m, takesP op = m := ⟨_, rfl⟩
  rw [hm]
  by_cases h1 : op = 1
  · have hme : m = 0 := by rw [← hm, takesP, if_pos (.inl h1)]
    subst hme
    have hb : (op == 1) = true := by rw [beq_iff_eq]; exact h1
    clear h1 hm
    go_enter Tryd.func109, Tryd.ntmps109
    go_wp2_with fail
    go_ret
    exact ⟨rfl, rfl⟩
  by_cases h2 : op = 2
  · have hme : m = 0 := by rw [← hm, takesP, if_pos (.inr h2)]
    subst hme
    have hb : (op == 1) = false := by rw [beq_eq_false_iff_ne]; exact h1
    have hb2 : (op == 2) = true := by rw [beq_iff_eq]; exact h2
    clear h1 h2 hm
    go_enter Tryd.func109, Tryd.ntmps109
    go_wp2_with fail
    go_ret
    exact ⟨rfl, rfl⟩
  have hb : (op == 1) = false := by rw [beq_eq_false_iff_ne]; exact h1
  have hb2 : (op == 2) = false := by rw [beq_eq_false_iff_ne]; exact h2
  by_cases h9 : op = 9
  · have hme : m = 1 := by rw [← hm, takesP, if_neg (fun h => h.elim h1 h2), if_pos h9]
    subst hme
    have hb9 : (op == 9) = true := by rw [beq_iff_eq]; exact h9
    clear h1 h2 h9 hm
    go_enter Tryd.func109, Tryd.ntmps109
    go_wp2_with fail
    go_ret
    exact ⟨rfl, rfl⟩
  · have hme : m = 2 := by rw [← hm, takesP, if_neg (fun h => h.elim h1 h2), if_neg h9]
    subst hme
    have hb9 : (op == 9) = false := by rw [beq_eq_false_iff_ne]; exact h9
    clear h1 h2 h9 hm
    go_enter Tryd.func109, Tryd.ntmps109
    go_wp2_with fail
    go_ret
    exact ⟨rfl, rfl⟩

set_option maxRecDepth 100000 in
set_option maxHeartbeats 400000 in
theorem get_any (f : List Ft) (v : Value) (t : List UInt8) (w : World) (hf : RdFt w v f) : Calls Tryd.prog 84 #[v, .string (str t)] w fun e w' => e = .returned (.tuple #[.int .i64 (getP f t).1, .bool (getP f t).2]) ∧ Below w.heap.size w w' := by
  obtain ⟨A, c, rfl, hc, hml⟩ := hf.form
  unfold maxLen at hml
  have HF := Lib.hid hf
  obtain ⟨r, hr⟩ : ∃ r, getP f t = r := ⟨_, rfl⟩
  rw [hr]
  have HR := Lib.hid hr
  clear hf hc hr
  go_enter Tryd.func84, Tryd.ntmps84
  go_wp2_with fail
  go_loopw [10] (fun i wr => ∃ k : Nat, k ≤ f.length ∧ i = .int .i64 k ∧ getP (f.drop k) t = r ∧ Below w.heap.size w wr) (fun i _ => f.length - (intOf i).toNat)
  case atStart => exact ⟨0, by omega, rfl, by rw [List.drop_zero]; exact HR.out, Below.refl _ _⟩
  case round =>
    obtain ⟨k, hk, rfl, hg, hb⟩ := hrel
    have HB := Lib.hid hb
    have HG := Lib.hid hg
    clear hb hg
    by_cases hlt : k < f.length
    · have hx : f[k]? = some f[k] := List.getElem?_eq_getElem hlt
      have hd := List.drop_eq_getElem_cons hlt
      obtain ⟨x, hxe⟩ : ∃ x, f[k] = x := ⟨_, rfl⟩
      rw [hxe] at hx hd
      obtain ⟨b, off, rfl, hbl, d0, d1⟩ := (HF.out.next HB.out).at_ hx
      have hgd := HG.out
      rw [hd, getP] at hgd
      have HB2 := Lib.hid (bel_alloc (ob := .cells #[.string (str x.name), .int .i64 x.n] 111) HB.out)
      have htl : (str x.name).toList = x.name := by rw [toList_bts, bts_str]
      have htl2 : (str t).toList = t := by rw [toList_bts, bts_str]
      by_cases hn : x.name = t
      · rw [if_pos hn] at hgd
        subst hgd
        have hnb : ((str x.name).toList == (str t).toList) = true := by rw [htl, htl2, beq_iff_eq]; exact hn
        clear hx hd hxe htl htl2 hn HG HR
        go_wp2_with fail
        go_ret2
        exact ⟨rfl, HB2.out⟩
      · rw [if_neg hn] at hgd
        have HGD := Lib.hid hgd
        have hnb : ((str x.name).toList == (str t).toList) = false := by rw [htl, htl2, beq_eq_false_iff_ne]; exact hn
        clear hx hd hxe htl htl2 hn HG HR hgd
        go_wp2_with fail
        exact ⟨⟨k + 1, by omega, by go_num, HGD.out, HB2.out⟩, by simp [intOf]; omega⟩
    · have hre : r = (0, false) := by rw [← HG.out, List.drop_eq_nil_of_le (by omega)]; rfl
      subst hre
      clear HR HG
      go_wp2_with fail
      go_ret2
      exact ⟨rfl, HB.out⟩

set_option maxHeartbeats 400000 in
theorem indexS_any (l : List (List UInt8)) (v : Value) (t : List UInt8) (w : World) (hrd : RdNs w v l) :
    Calls Tryd.prog 120 #[v, .string (str t)] w fun e w' => (∃ i : Int, e = .returned (.int .i64 i) ∧ -1 ≤ i ∧ i < 9223372036854775807 ∧ (0 ≤ i ↔ t ∈ l)) ∧ w' = w := by
  obtain ⟨A, c, rfl, hc, hml⟩ := hrd.form
  unfold maxLen at hml
  have HRD := Lib.hid hrd
  clear hrd
  go_enter Tryd.func120, Tryd.ntmps120
  go_wp2_with fail
  go_loop [8] (fun i => ∃ k : Nat, k ≤ l.length ∧ i = .int .i64 k ∧ t ∉ l.take k) (fun i => l.length - (intOf i).toNat)
  case atStart => exact ⟨0, by omega, rfl, by simp⟩
  case round =>
    obtain ⟨k, hk, rfl, hnk⟩ := hrel
    have HNK := Lib.hid hnk
    clear hnk
    by_cases hlt : k < l.length
    · have hx : l[k]? = some l[k] := List.getElem?_eq_getElem hlt
      obtain ⟨m, hm⟩ : ∃ m, l[k] = m := ⟨_, rfl⟩
      rw [hm] at hx
      obtain ⟨b, off, rfl, hbl, d0⟩ := HRD.out.at_ hx
      have HX := Lib.hid hx
      have htl : (str m).toList = m := by rw [toList_bts, bts_str]
      have htl2 : (str t).toList = t := by rw [toList_bts, bts_str]
      clear hx hm
      by_cases hmn : t = m
      · have hmb : ((str t).toList == (str m).toList) = true := by rw [htl, htl2, beq_iff_eq]; exact hmn
        have HMN := Lib.hid hmn
        clear htl htl2 hmn
        go_wp2_with fail
        go_ret
        exact ⟨⟨k, rfl, by omega, by omega, by rw [HMN.out]; simp [List.mem_of_getElem? HX.out]⟩, rfl⟩
      · have hmb : ((str t).toList == (str m).toList) = false := by rw [htl, htl2, beq_eq_false_iff_ne]; exact hmn
        have HN := Lib.hid (show t ∉ l.take (k + 1) by rw [List.take_add_one, HX.out]; simp [HNK.out, hmn])
        clear hmn htl htl2
        go_wp2_with fail
        exact ⟨⟨k + 1, by omega, by go_num, HN.out⟩, by simp [intOf]; omega⟩
    · have hn : t ∉ l := by have := HNK.out; rwa [List.take_of_length_le (by omega)] at this
      have HN := Lib.hid hn
      clear hn
      go_wp2_with fail
      go_ret
      exact ⟨⟨-1, rfl, by omega, by omega, by simp [HN.out]⟩, rfl⟩

set_option maxHeartbeats 400000 in
theorem containsS_any (l : List (List UInt8)) (v : Value) (t : List UInt8) (w : World) (hrd : RdNs w v l) :
    Calls Tryd.prog 110 #[v, .string (str t)] w fun e w' => e = .returned (.bool (decide (t ∈ l))) ∧ w' = w := by
  have HRD := Lib.hid hrd
  clear hrd
  go_enter Tryd.func110, Tryd.ntmps110
  go_wp2_with fail
  refine (indexS_any l v t _ HRD.out).mono ?_
  rintro e w1 ⟨⟨i, rfl, h1, h2, h3⟩, rfl⟩
  have HI := Lib.hid h3
  clear h3
  go_wp2_with fail
  go_ret
  refine ⟨ret_bool ?_, rfl⟩
  rw [Bool.eq_iff_iff, decide_eq_true_eq, decide_eq_true_eq]
  exact HI.out

end Go.Proofs.YtkalkglllgebkaaDoor

namespace Go.Proofs.YtkalkglllgebkaaDoor
open Go.RowKit Saw Go.Sort

/-- A slice of strings that the call owns, from a block on. -/
def OwnsNs (w : World) (base : Nat) (v : Value) (l : List (List UInt8)) : Prop := w.ownsRow base 9 1 v l.length (l.map fun x => .string (str x))
theorem info_ns : (Tryd.prog.info? 9).map (fun i => (i.zero, i.size, i.bytes)) = some (some (.string ⟨#[]⟩), 1, 16) := by kernel_rfl
theorem cell_ns (w : World) (t : TypeId) (c0 : Value) (j : Nat) (u : Value) (h : [c0][j]? = some u) :
    (w.alloc (.cells #[c0] t)).cell? ((⟨w.heap.size, 0, none⟩ : Addr).add j) = some u := by
  have hadd : (⟨w.heap.size, 0, none⟩ : Addr).add j = ⟨w.heap.size, j, none⟩ := by unfold Addr.add; split <;> simp_all
  rw [hadd, World.cell?_alloc_at _ _ _ _ rfl, ← h]
  simp
/-- One string appended to a row of the call's own. -/
theorem append_ns {ops : Array Oper} {rest : List Oper} {o : Oper} {a : Act} {Q : Exit → Act → World → Prop} (W : World) (hgd : o.guard = none) (s x : Operand)
    (ho : o.op = .call { callee := .builtin .append, args := #[s, x], argTypes := #[90, 90] })
    (base : Nat) (v : Value) (l : List (List UInt8)) (hs : a.eval s = v) (hown : OwnsNs W base v l) (hl : l.length ≤ 100000) (hbase : base ≤ W.heap.size)
    (y : List UInt8) (t : ByteArray) (hx : a.eval x = .slice (some ⟨W.heap.size, 0, none⟩) 1 1) (hy : t = str y)
    (h : ∀ v' w', OwnsNs w' base v' (l ++ [y]) → W.grownBy w' v.ownBlock → wpList Tryd.prog ops Q rest (a.put o.dst v') w') :
    wpList Tryd.prog ops Q (o :: rest) a (W.alloc (.cells #[.string t] 9)) := by
  obtain ⟨i0, hi, hz0, hz1, hz2⟩ := info_parts info_ns
  refine wpList_append_own _ hgd s x 90 ho base 9 i0 _ 1 16 Tryd.underlying90 hi hz0 hz1 hz2 rfl (by decide) v l.length (l.map fun x => .string (str x)) hs (World.ownsRow.alloc hown _) ⟨W.heap.size, 0, none⟩ 1 1
    [.string t] hx rfl (cell_ns W _ _) (by simp [Value.oneCell']) (by simp only [maxLen]; omega) (by omega) (by rw [World.size_alloc]; omega) ?_
  intro v' w' hown' hg _
  refine h v' w' ?_ ?_
  · unfold OwnsNs
    rw [List.length_append, List.map_append]
    rw [hy] at hown'
    exact hown'
  · exact ⟨hg.os, hg.tape, hg.output, by have := hg.size; rw [World.size_alloc] at this; omega, fun i hi hne => (hg.block i (by rw [World.size_alloc]; omega) hne).trans (Below.heap_alloc W _ i hi)⟩

set_option maxRecDepth 100000 in
set_option maxHeartbeats 1000000 in
theorem names_any (f : List Ft) (v : Value) (w : World) (hf : RdFt w v f) (hl : f.length ≤ 1000) :
    Calls Tryd.prog 54 #[v] w fun e w' => ∃ u, e = .returned u ∧ RdNs w' u (f.map (·.name)) ∧ Below w.heap.size w w' := by
  obtain ⟨A, c, rfl, hc, hml⟩ := hf.form
  clear hml hc
  have HF := Lib.hid hf
  clear hf
  go_enter Tryd.func54, Tryd.ntmps54
  go_wp2_with fail
  go_loopw [3, 8] (fun o i wr => ∃ k : Nat, k ≤ f.length ∧ i = .int .i64 k ∧ OwnsNs wr w.heap.size o ((f.take k).map (·.name)) ∧ Below w.heap.size w wr) (fun _ i _ => f.length - (intOf i).toNat)
  case atStart => exact ⟨0, by omega, rfl, World.ownsRow_nil _ _ _ _, Below.refl _ _⟩
  case round =>
    obtain ⟨k, hk, rfl, ho, hb⟩ := hrel
    have HB := Lib.hid hb
    have HO := Lib.hid ho
    have hsz := hb.size
    clear hb ho
    by_cases hlt : k < f.length
    · have hx : f[k]? = some f[k] := List.getElem?_eq_getElem hlt
      obtain ⟨x, hxe⟩ : ∃ x, f[k] = x := ⟨_, rfl⟩
      rw [hxe] at hx
      obtain ⟨b, off, rfl, hbl, d0, d1⟩ := (HF.out.next HB.out).at_ hx
      have HX := Lib.hid hx
      have HB1 := Lib.hid (bel_alloc (ob := .cells #[.string (str x.name), .int .i64 x.n] 111) HB.out)
      have HO1 := Lib.hid (show OwnsNs (wr.alloc (.cells #[.string (str x.name), .int .i64 x.n] 111)) w.heap.size u3 ((f.take k).map (·.name)) from World.ownsRow.alloc HO.out _)
      have hsz1 : (wr.alloc (.cells #[.string (str x.name), .int .i64 x.n] 111)).heap.size = wr.heap.size + 1 := World.size_alloc _ _
      have hlk : ((f.take k).map (·.name)).length ≤ 100000 := by rw [List.length_map, List.length_take]; omega
      clear hx hxe
      go_wp2_with (at_builtin; refine append_ns (wr.alloc (.cells #[.string (str x.name), .int .i64 x.n] 111)) rfl (.tmp 12) (.tmp 15) rfl w.heap.size u3 ((f.take k).map (·.name)) rfl HO1.out hlk (by omega) x.name (str x.name) (by rw [World.size_alloc]; rfl) rfl ?_; intro v2 w2 hown2 hg2; have HOWN2 := Lib.hid hown2; have HG2 := Lib.hid hg2; clear hown2 hg2)
      have hb2 : Below w.heap.size w w2 := HB1.out.grown HG2.out HB1.out.size (fun g hg => by
        rcases HO1.out.2 with ⟨hn, _⟩ | ⟨g', cap, cur, hn, hbg, _⟩
        · rw [hn] at hg; cases hg
        · rw [hn] at hg
          have e : some g' = some g := hg
          injection e with e
          omega)
      exact ⟨⟨k + 1, by omega, by go_num, by rw [List.take_add_one, HX.out, List.map_append]; exact HOWN2.out, hb2⟩, by simp [intOf]; omega⟩
    · have hke : k = f.length := by omega
      have HO2 := Lib.hid (show OwnsNs wr w.heap.size u3 (f.map (·.name)) by have := HO.out; rw [hke, List.take_length] at this; exact this)
      clear HO hke
      go_wp2_with fail
      go_ret
      exact ⟨_, rfl, Rd.of_own HO2.out, HB.out⟩

end Go.Proofs.YtkalkglllgebkaaDoor

namespace Saw
theorem valE_bd (f : List Ft) : ∀ (N : Nat) (x : Ex), x.size ≤ N → formedE x = true → -(1099511627776 + x.depth : Int) ≤ (valE f x).1 ∧ (valE f x).1 ≤ 1099511627776 + x.depth := by
  intro N
  induction N with
  | zero => intro x h; simp only [Ex.size] at h; omega
  | succ N ih =>
    intro x hN hf
    have hd : 1 ≤ x.depth := by simp only [Ex.depth]; omega
    rcases formed_cases hf with ⟨a1, _⟩ | ⟨a1, _⟩ | ⟨a, a1, a2, a3⟩ | ⟨a, b, a1, a2, a3, a4⟩
    · have := limP_bd x.n
      rw [valE, rawV, if_pos a1]
      omega
    · have := limP_bd (getP f x.name).1
      rw [valE, rawV, if_neg (by rw [a1]; decide), if_pos a1]
      omega
    · have hm : a ∈ (one 9 a).kids.toList := by simp [one, Fo.toList]
      rw [a2] at hN hd ⊢
      have h1 := kids_size hm
      have h2 := kids_depth hm
      have h3 := ih a (by omega) a3
      rw [valE_one]
      split <;> simp only <;> omega
    · obtain ⟨o, ho⟩ : ∃ o : Nat, x.op = o := ⟨x.op.toNat, by omega⟩
      rw [ho] at a1 a2
      rw [a2] at hN hd ⊢
      have hm : a ∈ (two o a b).kids.toList := by simp [two, Fo.toList]
      have hm' : b ∈ (two o a b).kids.toList := by simp [two, Fo.toList]
      have h1 := kids_size hm
      have h2 := kids_depth hm
      have h1' := kids_size hm'
      have h2' := kids_depth hm'
      have h3 := ih a (by omega) a3
      have h3' := ih b (by omega) a4
      have h5 := combP_bd o (valE f a).1 (valE f b).1
      rw [valE_two f o a b (by omega) (by omega)]
      split
      · first | omega | (simp only; omega)
      · split
        · split <;> first | omega | (simp only; omega)
        · split
          · split <;> first | omega | (simp only; omega)
          · split
            · first | omega | (simp only; omega)
            · omega
end Saw
namespace Go.Proofs.YtkalkglllgebkaaDoor
open Go.RowKit Saw Go.Sort

set_option maxHeartbeats 2000000 in
theorem combine_any (op a b : Int) (ha : -2000000000000 ≤ a ∧ a ≤ 2000000000000) (hb : -2000000000000 ≤ b ∧ b ≤ 2000000000000) (w : World) :
    Calls Tryd.prog 85 #[.int .i64 op, .int .i64 a, .int .i64 b] w fun e w' => e = .returned (.tuple #[.int .i64 (combP op a b).1, .int .i64 (combP op a b).2]) ∧ w' = w := by
  obtain ⟨r, hr⟩ : ∃ r, combP op a b = r := ⟨_, rfl⟩
  rw [hr]
  have HR := Lib.hid hr
  obtain ⟨ha1, ha2⟩ := ha
  obtain ⟨hb1, hb2⟩ := hb
  clear hr
  unfold combP at HR
  have hs3 : IntKind.i64.wrap (a + b) = a + b := by rw [IntKind.wrap_i64] <;> omega
  have hs4 : IntKind.i64.wrap (a - b) = a - b := by rw [IntKind.wrap_i64] <;> omega
  by_cases k3 : op = 3
  · have f3 : (op == 3) = true := by rw [beq_iff_eq]; exact k3
    have f4 : (op == 4) = false := by rw [beq_eq_false_iff_ne]; omega
    have f5 : (op == 5) = false := by rw [beq_eq_false_iff_ne]; omega
    have f6 : (op == 6) = false := by rw [beq_eq_false_iff_ne]; omega
    have f7 : (op == 7) = false := by rw [beq_eq_false_iff_ne]; omega
    have hre := HR.out
    rw [if_pos k3] at hre
    subst hre
    have HL := Lib.hid (limited_any (a + b) w)
    clear HR k3
    go_enter Tryd.func85, Tryd.ntmps85
    go_wp2_with fail
    refine HL.out.mono ?_
    rintro e w1 ⟨he, rfl⟩
    subst he
    go_wp2_with fail
    go_ret2
    exact ⟨rfl, rfl⟩
  by_cases k4 : op = 4
  · have f3 : (op == 3) = false := by rw [beq_eq_false_iff_ne]; omega
    have f4 : (op == 4) = true := by rw [beq_iff_eq]; exact k4
    have f5 : (op == 5) = false := by rw [beq_eq_false_iff_ne]; omega
    have f6 : (op == 6) = false := by rw [beq_eq_false_iff_ne]; omega
    have f7 : (op == 7) = false := by rw [beq_eq_false_iff_ne]; omega
    have hre := HR.out
    rw [if_neg k3] at hre
    rw [if_pos k4] at hre
    subst hre
    have HL := Lib.hid (limited_any (a - b) w)
    clear HR k3 k4
    go_enter Tryd.func85, Tryd.ntmps85
    go_wp2_with fail
    refine HL.out.mono ?_
    rintro e w1 ⟨he, rfl⟩
    subst he
    go_wp2_with fail
    go_ret2
    exact ⟨rfl, rfl⟩
  by_cases k5 : op = 5
  · have f3 : (op == 3) = false := by rw [beq_eq_false_iff_ne]; omega
    have f4 : (op == 4) = false := by rw [beq_eq_false_iff_ne]; omega
    have f5 : (op == 5) = true := by rw [beq_iff_eq]; exact k5
    have f6 : (op == 6) = false := by rw [beq_eq_false_iff_ne]; omega
    have f7 : (op == 7) = false := by rw [beq_eq_false_iff_ne]; omega
    have hre := HR.out
    rw [if_neg k3] at hre
    rw [if_neg k4] at hre
    rw [if_pos k5] at hre
    have HMA := Lib.hid (magn_any a (by omega) (by omega) w)
    have HMB := Lib.hid (magn_any b (by omega) (by omega) w)
    by_cases ha0 : a = 0
    · have ha0b : (a != 0) = false := by rw [bne_eq_false_iff_eq]; exact ha0
      rw [if_neg (fun h => h.1 ha0)] at hre
      subst hre
      have hmw : IntKind.i64.wrap (a * b) = a * b := by rw [ha0, Int.zero_mul]; rfl
      clear HR ha0 k3 k4 k5
      go_enter Tryd.func85, Tryd.ntmps85
      go_wp2_with fail
      go_ret2
      exact ⟨rfl, rfl⟩
    have ha0b : (a != 0) = true := by rw [bne_iff_ne]; exact ha0
    obtain ⟨ma, hma⟩ : ∃ m, magP a = m := ⟨_, rfl⟩
    obtain ⟨mb, hmb⟩ : ∃ m, magP b = m := ⟨_, rfl⟩
    have hp1 : 0 < ma := by rw [← hma, magP]; split <;> omega
    have hq : (1099511627776 : Int).tdiv ma = 1099511627776 / ma := Int.tdiv_eq_ediv_of_nonneg (by decide)
    have hq1 : 0 ≤ 1099511627776 / ma := Int.ediv_nonneg (by decide) (by omega)
    have hq2 : 1099511627776 / ma ≤ 1099511627776 := Int.ediv_le_self _ (by decide)
    obtain ⟨q, hqe⟩ : ∃ q, 1099511627776 / ma = q := ⟨_, rfl⟩
    have hmz : ma ≠ 0 := by omega
    rw [hma] at HMA hre
    rw [hmb] at HMB hre
    rw [hqe] at hq hq1 hq2 hre
    by_cases hgt : q < mb
    · rw [if_pos ⟨ha0, hgt⟩] at hre
      subst hre
      clear HR ha0 hma hmb hqe k3 k4 k5
      go_enter Tryd.func85, Tryd.ntmps85
      go_wp2_with fail
      refine HMB.out.mono ?_
      rintro e w1 ⟨he, rfl⟩
      subst he
      go_wp2_with fail
      refine HMA.out.mono ?_
      rintro e w1 ⟨he, rfl⟩
      subst he
      go_wp2_with fail
      go_ret2
      exact ⟨rfl, rfl⟩
    · rw [if_neg (fun h => hgt h.2)] at hre
      subst hre
      have hbd := mul_bd (a := a) (b := b) (by rw [hma, hmb, hqe]; exact fun h => hgt h.2)
      have hmw : IntKind.i64.wrap (a * b) = a * b := by rw [IntKind.wrap_i64] <;> omega
      clear HR ha0 hma hmb hqe k3 k4 k5
      go_enter Tryd.func85, Tryd.ntmps85
      go_wp2_with fail
      refine HMB.out.mono ?_
      rintro e w1 ⟨he, rfl⟩
      subst he
      go_wp2_with fail
      refine HMA.out.mono ?_
      rintro e w1 ⟨he, rfl⟩
      subst he
      go_wp2_with fail
      go_ret2
      exact ⟨rfl, rfl⟩
  by_cases k6 : op = 6
  · have f3 : (op == 3) = false := by rw [beq_eq_false_iff_ne]; omega
    have f4 : (op == 4) = false := by rw [beq_eq_false_iff_ne]; omega
    have f5 : (op == 5) = false := by rw [beq_eq_false_iff_ne]; omega
    have f6 : (op == 6) = true := by rw [beq_iff_eq]; exact k6
    have f7 : (op == 7) = false := by rw [beq_eq_false_iff_ne]; omega
    have hre := HR.out
    rw [if_neg k3] at hre
    rw [if_neg k4] at hre
    rw [if_neg k5] at hre
    rw [if_pos k6] at hre
    subst hre
    obtain ⟨t, ht⟩ : ∃ t, (a == b) = t := ⟨_, rfl⟩
    rw [ht]
    have HT := Lib.hid (truth_any t w)
    clear HR k3 k4 k5 k6
    go_enter Tryd.func85, Tryd.ntmps85
    go_wp2_with fail
    try rw [ht]
    refine HT.out.mono ?_
    rintro e w1 ⟨he, rfl⟩
    subst he
    go_wp2_with fail
    go_ret2
    exact ⟨rfl, rfl⟩
  by_cases k7 : op = 7
  · have f3 : (op == 3) = false := by rw [beq_eq_false_iff_ne]; omega
    have f4 : (op == 4) = false := by rw [beq_eq_false_iff_ne]; omega
    have f5 : (op == 5) = false := by rw [beq_eq_false_iff_ne]; omega
    have f6 : (op == 6) = false := by rw [beq_eq_false_iff_ne]; omega
    have f7 : (op == 7) = true := by rw [beq_iff_eq]; exact k7
    have hre := HR.out
    rw [if_neg k3] at hre
    rw [if_neg k4] at hre
    rw [if_neg k5] at hre
    rw [if_neg k6] at hre
    rw [if_pos k7] at hre
    subst hre
    obtain ⟨t, ht⟩ : ∃ t, (decide (a < b)) = t := ⟨_, rfl⟩
    rw [ht]
    have HT := Lib.hid (truth_any t w)
    clear HR k3 k4 k5 k6 k7
    go_enter Tryd.func85, Tryd.ntmps85
    go_wp2_with fail
    try rw [ht]
    refine HT.out.mono ?_
    rintro e w1 ⟨he, rfl⟩
    subst he
    go_wp2_with fail
    go_ret2
    exact ⟨rfl, rfl⟩
  have f3 : (op == 3) = false := by rw [beq_eq_false_iff_ne]; exact k3
  have f4 : (op == 4) = false := by rw [beq_eq_false_iff_ne]; exact k4
  have f5 : (op == 5) = false := by rw [beq_eq_false_iff_ne]; exact k5
  have f6 : (op == 6) = false := by rw [beq_eq_false_iff_ne]; exact k6
  have f7 : (op == 7) = false := by rw [beq_eq_false_iff_ne]; exact k7
  have hre := HR.out
  rw [if_neg k3, if_neg k4, if_neg k5, if_neg k6, if_neg k7] at hre
  subst hre
  obtain ⟨t, ht⟩ : ∃ t, decide (a ≤ b) = t := ⟨_, rfl⟩
  rw [ht]
  have HT := Lib.hid (truth_any t w)
  clear HR k3 k4 k5 k6 k7
  go_enter Tryd.func85, Tryd.ntmps85
  go_wp2_with fail
  try rw [ht]
  refine HT.out.mono ?_
  rintro e w1 ⟨he, rfl⟩
  subst he
  go_wp2_with fail
  go_ret2
  exact ⟨rfl, rfl⟩

end Go.Proofs.YtkalkglllgebkaaDoor

namespace Go.Proofs.YtkalkglllgebkaaDoor
open Go.RowKit Saw Go.Sort

def ValPost (r : Int × Int) (w : World) (e : Ending) (w' : World) : Prop := e = .returned (.tuple #[.int .i64 r.1, .int .i64 r.2]) ∧ Below w.heap.size w w'
def ValAt (f : List Ft) (x : Ex) : Prop := ∀ (A : Option Addr) (c : Nat) (v : Value) (w : World), RdFo w (Iv 0 w.heap.size) (.slice A x.kids.toList.length c) x.kids → RdFt w v f →
    Calls Tryd.prog 55 #[.agg #[.int .i64 x.op, .int .i64 x.n, .string (str x.name), .slice A x.kids.toList.length c], v] w (ValPost (valE f x) w)

set_option maxRecDepth 100000 in
set_option maxHeartbeats 1000000 in
theorem val_num (f : List Ft) (x : Ex) (h : x.op = 1) : ValAt f x := by
  intro A c v w _ _
  rw [show valE f x = limP x.n by rw [valE, rawV, if_pos h], h]
  obtain ⟨sv, hsv⟩ : ∃ sv, Value.slice A x.kids.toList.length c = sv := ⟨_, rfl⟩
  rw [hsv]
  have hB := bel_alloc (ob := .cells #[.int .i64 1, .int .i64 x.n, .string (str x.name), sv] 24) (Below.refl w.heap.size w)
  have hR1 := heap_alloc_last w (.cells #[.int .i64 1, .int .i64 x.n, .string (str x.name), sv] 24)
  have HL := Lib.hid (fun W => limited_any x.n W)
  go_enter Tryd.func55, Tryd.ntmps55
  go_upto_region 1 with fail
  obtain ⟨n0, hn0⟩ : ∃ n, w.heap.size = n := ⟨_, rfl⟩
  obtain ⟨W0, hW0⟩ : ∃ W, w.alloc (.cells #[.int .i64 1, .int .i64 x.n, .string (str x.name), sv] 24) = W := ⟨_, rfl⟩
  rw [hW0] at hB hR1 ⊢
  have HB := Lib.hid hB
  rw [hn0] at hR1 ⊢
  have r0 : W0.cell? ⟨n0, 0, none⟩ = some (.int .i64 1) := cell_of_box hR1 rfl
  have r1 : W0.cell? ⟨n0, 1, none⟩ = some (.int .i64 x.n) := cell_of_box hR1 rfl
  clear hB hR1 hW0 hn0
  go_wp2_with fail
  refine (HL.out _).mono ?_
  rintro e w1 ⟨he, rfl⟩
  subst he
  go_wp2_with fail
  go_ret2
  exact ⟨rfl, HB.out⟩

set_option maxRecDepth 100000 in
set_option maxHeartbeats 1000000 in
theorem val_name (f : List Ft) (x : Ex) (h : x.op = 2) : ValAt f x := by
  intro A c v w _ hft
  rw [show valE f x = limP (getP f x.name).1 by rw [valE, rawV, if_neg (by rw [h]; decide), if_pos h], h]
  obtain ⟨m, hm⟩ : ∃ m, getP f x.name = m := ⟨_, rfl⟩
  rw [hm]
  have HM := Lib.hid hm
  clear hm
  obtain ⟨sv, hsv⟩ : ∃ sv, Value.slice A x.kids.toList.length c = sv := ⟨_, rfl⟩
  rw [hsv]
  have HFT := Lib.hid hft
  have hB := bel_alloc (ob := .cells #[.int .i64 2, .int .i64 x.n, .string (str x.name), sv] 24) (Below.refl w.heap.size w)
  have hR1 := heap_alloc_last w (.cells #[.int .i64 2, .int .i64 x.n, .string (str x.name), sv] 24)
  clear hft hsv
  go_enter Tryd.func55, Tryd.ntmps55
  go_upto_region 1 with fail
  obtain ⟨n0, hn0⟩ : ∃ n, w.heap.size = n := ⟨_, rfl⟩
  obtain ⟨W0, hW0⟩ : ∃ W, w.alloc (.cells #[.int .i64 2, .int .i64 x.n, .string (str x.name), sv] 24) = W := ⟨_, rfl⟩
  rw [hW0] at hB hR1 ⊢
  have HB := Lib.hid hB
  have HF0 := Lib.hid (HFT.out.next hB)
  rw [hn0] at hR1 ⊢
  have r0 : W0.cell? ⟨n0, 0, none⟩ = some (.int .i64 2) := cell_of_box hR1 rfl
  have r2 : W0.cell? ⟨n0, 2, none⟩ = some (.string (str x.name)) := cell_of_box hR1 rfl
  clear hB hR1 hW0 hn0
  go_wp2_with fail
  refine (get_any f _ x.name W0 HF0.out).mono ?_
  rintro e w1 ⟨he, hb⟩
  rw [HM.out] at he
  subst he
  have HB1 := Lib.hid (bel_call HB.out hb)
  clear hb
  go_wp2_with fail
  refine (limited_any m.1 w1).mono ?_
  rintro e w2 ⟨he, rfl⟩
  subst he
  go_wp2_with fail
  go_ret2
  exact ⟨rfl, HB1.out⟩

set_option maxRecDepth 100000 in
set_option maxHeartbeats 1000000 in
theorem val_not (f : List Ft) (a : Ex) (hbd : -2000000000000 ≤ (valE f a).1 ∧ (valE f a).1 ≤ 2000000000000) (ih : ValAt f a) : ValAt f (one 9 a) := by
  intro A c v w hrd hft
  obtain ⟨b0, off, A1, c1, rfl, hS1, hra, hga⟩ := hrd.at_ (i := 0) (x := a) rfl
  have hcap : 1 ≤ c := by obtain ⟨_, _, he, hc, _⟩ := hrd.form; injection he with _ _ he; have h1 : (one 9 a).kids.toList.length = 1 := rfl; omega
  obtain ⟨r, hr⟩ : ∃ r, valE f a = r := ⟨_, rfl⟩
  rw [valE_one, hr]
  rw [hr] at hbd
  have HRV := Lib.hid hr
  show Calls Tryd.prog 55 #[.agg #[.int .i64 9, .int .i64 0, .string (str []), .slice (some ⟨b0, off, none⟩) 1 c], v] w (ValPost (if r.2 ≠ 0 then (0, r.2) else (1 - r.1, 0)) w)
  have hB := bel_alloc (ob := .cells #[.int .i64 9, .int .i64 0, .string (str []), .slice (some ⟨b0, off, none⟩) 1 c] 24) (Below.refl w.heap.size w)
  have hR1 := heap_alloc_last w (.cells #[.int .i64 9, .int .i64 0, .string (str []), .slice (some ⟨b0, off, none⟩) 1 c] 24)
  obtain ⟨q, hq⟩ : ∃ q, (if r.2 ≠ 0 then (0, r.2) else (1 - r.1, 0)) = q := ⟨_, rfl⟩
  rw [hq]
  have HQ := Lib.hid hq
  have HRA := Lib.hid hra
  have HFT := Lib.hid hft
  have hbsz : b0 < w.heap.size := hS1.2
  rw [show off + 0 * 4 = off by omega] at hga
  have HGA := Lib.hid hga
  have HIA := Lib.hid ih
  have hsb : IntKind.i64.wrap (1 - r.1) = 1 - r.1 := by rw [IntKind.wrap_i64] <;> omega
  clear hrd hra hga hS1 ih hft hr hq
  go_enter Tryd.func55, Tryd.ntmps55
  go_upto_region 1 with fail
  obtain ⟨n0, hn0⟩ : ∃ n, w.heap.size = n := ⟨_, rfl⟩
  obtain ⟨W0, hW0⟩ : ∃ W, w.alloc (.cells #[.int .i64 9, .int .i64 0, .string (str []), .slice (some ⟨b0, off, none⟩) 1 c] 24) = W := ⟨_, rfl⟩
  rw [hW0] at hB hR1 ⊢
  have HX0 := Lib.hid (HRA.out.next hB)
  have HB := Lib.hid hB
  have HF0 := Lib.hid (HFT.out.next hB)
  have HGA1 := Lib.hid (rangeAt_below hB hbsz HGA.out)
  rw [hn0] at hR1 ⊢
  have HR1 := Lib.hid hR1
  have r0 : W0.cell? ⟨n0, 0, none⟩ = some (.int .i64 9) := cell_of_box hR1 rfl
  have r3 : W0.cell? ⟨n0, 3, none⟩ = some (.slice (some ⟨b0, off, none⟩) 1 c) := cell_of_box hR1 rfl
  clear hB hR1 hW0 hn0 HRA HGA HFT
  go_wp2_with (first
    | ((with_reducible refine ex_load b0 off a (.slice A1 a.kids.toList.length c1) ?hx HGA1.out ?_); (case hx => rfl)))
  refine (HIA.out A1 c1 _ W0 HX0.out HF0.out).mono ?_
  rintro e w2 ⟨he, hb⟩
  rw [HRV.out] at he
  subst he
  have HB2 := Lib.hid (bel_call HB.out hb)
  have s0 : w2.cell? ⟨n0, 0, none⟩ = some (.int .i64 9) := (hb.cell (p := ⟨n0, 0, none⟩) (Array.getElem?_eq_some_iff.1 HR1.out).1).trans r0
  clear hb r0 r3
  have hqe := HQ.out
  by_cases h0 : r.2 = 0
  · have h0b : (r.2 != 0) = false := by rw [bne_eq_false_iff_eq]; exact h0
    rw [if_neg (by rw [h0]; decide)] at hqe
    subst hqe
    clear h0 HQ
    go_wp2_with fail
    go_ret2
    exact ⟨rfl, HB2.out⟩
  · have h0b : (r.2 != 0) = true := by rw [bne_iff_ne]; exact h0
    rw [if_pos h0] at hqe
    subst hqe
    clear h0 HQ
    go_wp2_with fail
    go_ret2
    exact ⟨rfl, HB2.out⟩

set_option maxRecDepth 100000 in
set_option maxHeartbeats 2000000 in
theorem val_two (f : List Ft) (o : Nat) (a b : Ex) (ho : (o : Int) = 3 ∨ (o : Int) = 4 ∨ (o : Int) = 5 ∨ (o : Int) = 6 ∨ (o : Int) = 7 ∨ (o : Int) = 8 ∨ (o : Int) = 10 ∨ (o : Int) = 11) (hbd : -2000000000000 ≤ (valE f a).1 ∧ (valE f a).1 ≤ 2000000000000) (hbd2 : -2000000000000 ≤ (valE f b).1 ∧ (valE f b).1 ≤ 2000000000000) (ih : ValAt f a) (ih2 : ValAt f b) : ValAt f (two o a b) := by
  intro A c v w hrd hft
  have hkl : (two o a b).kids.toList = [a, b] := rfl
  obtain ⟨b0, off, A1, c1, rfl, hS1, hra, hga⟩ := hrd.at_ (i := 0) (x := a) rfl
  obtain ⟨b0', off', A2, c2, hbe, _, hrb, hgb⟩ := hrd.at_ (i := 1) (x := b) rfl
  injection hbe with hbe
  injection hbe with hb1 hb2 _
  subst hb1 hb2
  have e1 : ((o : Int) == 1) = false := by rw [beq_eq_false_iff_ne]; omega
  have e2 : ((o : Int) == 2) = false := by rw [beq_eq_false_iff_ne]; omega
  have e9 : ((o : Int) == 9) = false := by rw [beq_eq_false_iff_ne]; omega
  have hcap : 2 ≤ c := by obtain ⟨_, _, he, hc, _⟩ := hrd.form; injection he with _ _ he; rw [hkl] at hc; simp only [List.length_cons, List.length_nil] at hc; omega
  obtain ⟨r, hr⟩ : ∃ r, valE f a = r := ⟨_, rfl⟩
  obtain ⟨u, hu⟩ : ∃ u, valE f b = u := ⟨_, rfl⟩
  have hve := valE_two f o a b (by omega) (by omega)
  rw [hr, hu] at hve
  rw [hr] at hbd
  rw [hu] at hbd2
  obtain ⟨q, hq⟩ : ∃ q, valE f (two o a b) = q := ⟨_, rfl⟩
  rw [hq] at hve ⊢
  have HQ := Lib.hid hve
  have HRV := Lib.hid hr
  have HUV := Lib.hid hu
  show Calls Tryd.prog 55 #[.agg #[.int .i64 o, .int .i64 0, .string (str []), .slice (some ⟨b0, off, none⟩) 2 c], v] w (ValPost q w)
  have hB := bel_alloc (ob := .cells #[.int .i64 o, .int .i64 0, .string (str []), .slice (some ⟨b0, off, none⟩) 2 c] 24) (Below.refl w.heap.size w)
  have hR1 := heap_alloc_last w (.cells #[.int .i64 o, .int .i64 0, .string (str []), .slice (some ⟨b0, off, none⟩) 2 c] 24)
  have HRA := Lib.hid hra
  have HRB := Lib.hid hrb
  have HFT := Lib.hid hft
  have hbsz : b0 < w.heap.size := hS1.2
  rw [show off + 0 * 4 = off by omega] at hga
  rw [show off + 1 * 4 = off + 4 by omega] at hgb
  have HGA := Lib.hid hga
  have HGB := Lib.hid hgb
  have HIA := Lib.hid ih
  have HIB := Lib.hid ih2
  have HO := Lib.hid ho
  clear hrd hra hrb hga hgb hS1 ih ih2 hft hr hu hq hve hkl ho
  go_enter Tryd.func55, Tryd.ntmps55
  go_upto_region 1 with fail
  obtain ⟨n0, hn0⟩ : ∃ n, w.heap.size = n := ⟨_, rfl⟩
  obtain ⟨W0, hW0⟩ : ∃ W, w.alloc (.cells #[.int .i64 o, .int .i64 0, .string (str []), .slice (some ⟨b0, off, none⟩) 2 c] 24) = W := ⟨_, rfl⟩
  rw [hW0] at hB hR1 ⊢
  have HX0 := Lib.hid (HRA.out.next hB)
  have HY0 := Lib.hid (HRB.out.next hB)
  have HB := Lib.hid hB
  have HF0 := Lib.hid (HFT.out.next hB)
  have HGA1 := Lib.hid (rangeAt_below hB hbsz HGA.out)
  have HGB1 := Lib.hid (rangeAt_below hB hbsz HGB.out)
  have hbs0 : b0 < W0.heap.size := Nat.lt_of_lt_of_le hbsz hB.size
  rw [hn0] at hR1 ⊢
  have HR1 := Lib.hid hR1
  have r0 : W0.cell? ⟨n0, 0, none⟩ = some (.int .i64 o) := cell_of_box hR1 rfl
  have r3 : W0.cell? ⟨n0, 3, none⟩ = some (.slice (some ⟨b0, off, none⟩) 2 c) := cell_of_box hR1 rfl
  clear hB hR1 hW0 hn0 HRA HRB HGA HGB HFT
  go_wp2_with (first
    | ((with_reducible refine ex_load b0 off a (.slice A1 a.kids.toList.length c1) ?hx HGA1.out ?_); (case hx => rfl)))
  refine (HIA.out A1 c1 _ W0 HX0.out HF0.out).mono ?_
  rintro e w2 ⟨he, hb⟩
  rw [HRV.out] at he
  subst he
  have HB2 := Lib.hid (bel_call HB.out hb)
  have s0 : w2.cell? ⟨n0, 0, none⟩ = some (.int .i64 o) := (hb.cell (p := ⟨n0, 0, none⟩) (Array.getElem?_eq_some_iff.1 HR1.out).1).trans r0
  have s3 : w2.cell? ⟨n0, 3, none⟩ = some (.slice (some ⟨b0, off, none⟩) 2 c) := (hb.cell (p := ⟨n0, 3, none⟩) (Array.getElem?_eq_some_iff.1 HR1.out).1).trans r3
  have HY2 := Lib.hid (HY0.out.next hb)
  have HF2 := Lib.hid (HF0.out.next hb)
  have HGB2 := Lib.hid (rangeAt_below hb hbs0 HGB1.out)
  have HR2 := Lib.hid ((hb.block n0 (Array.getElem?_eq_some_iff.1 HR1.out).1).trans HR1.out)
  clear hb r0 r3 HGA1 HGB1 HX0 HY0 HF0 HR1
  have hqe := HQ.out
  by_cases h0 : r.2 = 0
  case neg =>
    have h0b : (r.2 != 0) = true := by rw [bne_iff_ne]; exact h0
    rw [if_pos h0] at hqe
    subst hqe
    clear h0 HQ
    go_wp2_with fail
    go_ret2
    exact ⟨rfl, HB2.out⟩
  have h0b : (r.2 != 0) = false := by rw [bne_eq_false_iff_eq]; exact h0
  rw [if_neg (by rw [h0]; decide)] at hqe
  clear h0 HQ
  by_cases h10 : (o : Int) = 10
  · have f10 : ((o : Int) == 10) = true := by rw [beq_iff_eq]; omega
    rw [if_pos h10] at hqe
    by_cases hv : r.1 = 0
    · have hvb : (r.1 == 0) = true := by rw [beq_iff_eq]; exact hv
      rw [if_pos hv] at hqe
      subst hqe
      clear hv h10
      go_wp2_with fail
      go_ret2
      exact ⟨rfl, HB2.out⟩
    · have hvb : (r.1 == 0) = false := by rw [beq_eq_false_iff_ne]; exact hv
      rw [if_neg hv] at hqe
      subst hqe
      clear hv h10
      go_wp2_with (first
        | ((with_reducible refine ex_load b0 (off + 4) b (.slice A2 b.kids.toList.length c2) ?hx HGB2.out ?_); (case hx => rfl)))
      refine (HIB.out A2 c2 _ w2 HY2.out HF2.out).mono ?_
      rintro e w3 ⟨he, hb⟩
      rw [HUV.out] at he
      subst he
      have HB3 := Lib.hid (bel_call HB2.out hb)
      clear hb
      go_wp2_with fail
      go_ret2
      exact ⟨rfl, HB3.out⟩
  by_cases h11 : (o : Int) = 11
  · have f10 : ((o : Int) == 10) = false := by rw [beq_eq_false_iff_ne]; omega
    have f11 : ((o : Int) == 11) = true := by rw [beq_iff_eq]; exact h11
    rw [if_neg h10, if_pos h11] at hqe
    by_cases hv : r.1 = 1
    · have hvb : (r.1 == 1) = true := by rw [beq_iff_eq]; exact hv
      rw [if_pos hv] at hqe
      subst hqe
      clear hv h10 h11
      go_wp2_with fail
      go_ret2
      exact ⟨rfl, HB2.out⟩
    · have hvb : (r.1 == 1) = false := by rw [beq_eq_false_iff_ne]; exact hv
      rw [if_neg hv] at hqe
      subst hqe
      clear hv h10 h11
      go_wp2_with (first
        | ((with_reducible refine ex_load b0 (off + 4) b (.slice A2 b.kids.toList.length c2) ?hx HGB2.out ?_); (case hx => rfl)))
      refine (HIB.out A2 c2 _ w2 HY2.out HF2.out).mono ?_
      rintro e w3 ⟨he, hb⟩
      rw [HUV.out] at he
      subst he
      have HB3 := Lib.hid (bel_call HB2.out hb)
      clear hb
      go_wp2_with fail
      go_ret2
      exact ⟨rfl, HB3.out⟩
  have f10 : ((o : Int) == 10) = false := by rw [beq_eq_false_iff_ne]; exact h10
  have f11 : ((o : Int) == 11) = false := by rw [beq_eq_false_iff_ne]; exact h11
  rw [if_neg h10, if_neg h11] at hqe
  have HQE := Lib.hid hqe
  clear h10 h11 hqe
  go_wp2_with (first
    | ((with_reducible refine ex_load b0 (off + 4) b (.slice A2 b.kids.toList.length c2) ?hx HGB2.out ?_); (case hx => rfl)))
  refine (HIB.out A2 c2 _ w2 HY2.out HF2.out).mono ?_
  rintro e w3 ⟨he, hb⟩
  rw [HUV.out] at he
  subst he
  have HB3 := Lib.hid (bel_call HB2.out hb)
  have t0 : w3.cell? ⟨n0, 0, none⟩ = some (.int .i64 o) := (hb.cell (p := ⟨n0, 0, none⟩) (Array.getElem?_eq_some_iff.1 HR2.out).1).trans s0
  clear hb
  have hqe := HQE.out
  clear HQE
  by_cases h2 : u.2 = 0
  · have h2b : (u.2 != 0) = false := by rw [bne_eq_false_iff_eq]; exact h2
    rw [if_neg (by rw [h2]; decide)] at hqe
    subst hqe
    have HC := Lib.hid (combine_any o r.1 u.1 hbd hbd2 w3)
    obtain ⟨z, hz⟩ : ∃ z, combP o r.1 u.1 = z := ⟨_, rfl⟩
    rw [hz] at HC
    have HZZ := Lib.hid hz
    clear h2 hz hbd hbd2
    go_wp2_with fail
    refine HC.out.mono ?_
    rintro e w4 ⟨he, rfl⟩
    subst he
    go_wp2_with fail
    go_ret2
    exact ⟨by rw [HZZ.out]; rfl, HB3.out⟩
  · have h2b : (u.2 != 0) = true := by rw [bne_iff_ne]; exact h2
    rw [if_pos h2] at hqe
    subst hqe
    clear h2
    go_wp2_with fail
    go_ret2
    exact ⟨rfl, HB3.out⟩

theorem ruleValue_any (f : List Ft) : ∀ (N : Nat) (x : Ex), x.size ≤ N → formedE x = true → x.depth ≤ 100 → ValAt f x := by
  intro N
  induction N with
  | zero => intro x h; simp only [Ex.size] at h; omega
  | succ N ih =>
    intro x hN hf hd
    rcases formed_cases hf with ⟨a1, _⟩ | ⟨a1, _⟩ | ⟨a, a1, a2, a3⟩ | ⟨a, b, a1, a2, a3, a4⟩
    · exact val_num f x a1
    · exact val_name f x a1
    · have hm : a ∈ (one 9 a).kids.toList := by simp [one, Fo.toList]
      rw [a2] at hN hd ⊢
      have h1 := kids_size hm
      have h2 := kids_depth hm
      have h3 := valE_bd f a.size a (Nat.le_refl _) a3
      exact val_not f a (by omega) (ih a (by omega) a3 (by omega))
    · obtain ⟨o, ho⟩ : ∃ o : Nat, x.op = o := ⟨x.op.toNat, by omega⟩
      rw [ho] at a1 a2
      rw [a2] at hN hd ⊢
      have hm : a ∈ (two o a b).kids.toList := by simp [two, Fo.toList]
      have hm' : b ∈ (two o a b).kids.toList := by simp [two, Fo.toList]
      have h1 := kids_size hm
      have h2 := kids_depth hm
      have h1' := kids_size hm'
      have h2' := kids_depth hm'
      have h3 := valE_bd f a.size a (Nat.le_refl _) a3
      have h3' := valE_bd f b.size b (Nat.le_refl _) a4
      exact val_two f o a b a1 (by omega) (by omega) (ih a (by omega) a3 (by omega)) (ih b (by omega) a4 (by omega))

end Go.Proofs.YtkalkglllgebkaaDoor

namespace Saw
theorem visE_first {ns : List (List UInt8)} {x : Ex} {k : Nat} {y : Ex} (hz : ∀ z ∈ x.kids.toList.take k, visE ns z = 0) (h : x.kids.toList[k]? = some y) (he : visE ns y ≠ 0) : visE ns x = visE ns y := by
  have h1 : firstE (visF ns x.kids) = visE ns y := by
    rw [visF_map]
    refine firstE_at _ k _ (fun e hm => ?_) (by rw [List.getElem?_map, h]; rfl) he
    rw [← List.map_take] at hm
    obtain ⟨z, hz1, rfl⟩ := List.mem_map.1 hm
    exact hz z hz1
  rw [visE, rawK, h1, if_pos he]
theorem visE_own {ns : List (List UInt8)} {x : Ex} (hz : ∀ z ∈ x.kids.toList, visE ns z = 0) : visE ns x = if x.op = 2 ∧ ¬ x.name ∈ ns then 8 else if x.kids.toList.all (fun a => condP a.op == takesC x.op) = true then 0 else 27 := by
  have h1 : firstE (visF ns x.kids) = 0 := by
    rw [visF_map]
    refine firstE_zero _ fun e hm => ?_
    obtain ⟨z, hz1, rfl⟩ := List.mem_map.1 hm
    exact hz z hz1
  rw [visE, rawK, h1, if_neg (by decide)]
/-- What a formed node is known by. -/
theorem formed_head {x : Ex} (h : formedE x = true) : 1 ≤ x.op ∧ x.op ≤ 11 ∧ x.kids.toList.length = takesP x.op ∧ -1099511627776 ≤ x.n ∧ x.n ≤ 1099511627776 ∧ (x.n = 0 ∨ x.op = 1) ∧ (if x.op = 2 then x.name ≠ [] else x.name = []) := by
  rw [formedE, Bool.and_eq_true, headP] at h
  obtain ⟨h, _⟩ := h
  simp only [Bool.and_eq_true, decide_eq_true_eq, Bool.or_eq_true] at h
  obtain ⟨⟨⟨⟨⟨⟨h1, h2⟩, h3⟩, h4⟩, h5⟩, h6⟩, h7⟩ := h
  refine ⟨h1, h2, h3, h4, h5, h6, ?_⟩
  split
  · rename_i h8
    rw [if_pos h8] at h7
    intro e
    rw [e] at h7
    exact absurd h7 (by decide)
  · rename_i h8
    rw [if_neg h8, beq_iff_eq] at h7
    exact h7
end Saw
namespace Go.Proofs.YtkalkglllgebkaaDoor
open Go.RowKit Saw Go.Sort

theorem below_drewNn {B : Nat} {w w' : World} (h : Below B w w') (n : Nat) : Below B w (w'.drewN n) := ⟨h.os, h.tape, h.output, h.size, h.block⟩

set_option maxRecDepth 100000 in
set_option maxHeartbeats 4000000 in
theorem visit_any (ns : List (List UInt8)) : ∀ (N : Nat) (x : Ex), x.size ≤ N → formedE x = true → ∀ (lvl : Int), 1 ≤ lvl → lvl + x.depth ≤ 9 → ∀ (A : Option Addr) (c : Nat) (u : Value) (w : World), RdFo w (Iv 0 w.heap.size) (.slice A x.kids.toList.length c) x.kids → RdNs w u ns →
    Calls Tryd.prog 95 #[.agg #[.int .i64 x.op, .int .i64 x.n, .string (str x.name), .slice A x.kids.toList.length c], u, .int .i64 lvl] w (IntB (visE ns x) w) := by
  intro N
  induction N with
  | zero => intro x h; simp only [Ex.size] at h; omega
  | succ N ih =>
    intro x hN hf lvl hl1 hl2 A c u w hrd hns
    obtain ⟨_, _, _, hc1, hml⟩ := hrd.form
    clear hc1
    unfold maxLen at hml
    obtain ⟨h1, h2, h3, h4, h5, h6, h7⟩ := formed_head hf
    have hdp : 1 ≤ x.depth := by simp only [Ex.depth]; omega
    have HKF := Lib.hid (show ∀ y ∈ x.kids.toList, formedE y = true from fun y hy => by rw [formedE, Bool.and_eq_true] at hf; exact formed_mem hf.2 y hy)
    have HKD := Lib.hid (show ∀ y ∈ x.kids.toList, lvl + 1 + y.depth ≤ 9 from fun y hy => by have := kids_depth hy; omega)
    have HKS := Lib.hid (show ∀ y ∈ x.kids.toList, y.size ≤ N from fun y hy => by have := kids_size hy; omega)
    have HI := Lib.hid ih
    have HRD := Lib.hid hrd
    have HNS := Lib.hid hns
    have HT := Lib.hid h3
    have H7 := Lib.hid h7
    have H6 := Lib.hid h6
    obtain ⟨r, hr⟩ : ∃ r, visE ns x = r := ⟨_, rfl⟩
    rw [hr]
    have HR := Lib.hid hr
    have hl8 : ¬ 8 < lvl := by omega
    have hlw : IntKind.i64.wrap (lvl + 1) = lvl + 1 := by rw [IntKind.wrap_i64] <;> omega
    have HLV := Lib.hid (And.intro hl1 hl2)
    clear hrd hns hf h3 h7 h6 hr ih hN hl1 hl2 hdp
    have hB := bel_alloc (ob := .cells #[.int .i64 x.op, .int .i64 x.n, .string (str x.name), .slice A x.kids.toList.length c] 24) (Below.refl w.heap.size w)
    have hR1 := heap_alloc_last w (.cells #[.int .i64 x.op, .int .i64 x.n, .string (str x.name), .slice A x.kids.toList.length c] 24)
    go_enter Tryd.func95, Tryd.ntmps95
    go_upto_region 1 with fail
    obtain ⟨n0, hn0⟩ : ∃ n, w.heap.size = n := ⟨_, rfl⟩
    obtain ⟨W0, hW0⟩ : ∃ W, w.alloc (.cells #[.int .i64 x.op, .int .i64 x.n, .string (str x.name), .slice A x.kids.toList.length c] 24) = W := ⟨_, rfl⟩
    rw [hW0] at hB hR1 ⊢
    have HRD0 := Lib.hid (HRD.out.next hB)
    have HNS0 := Lib.hid (HNS.out.next hB)
    have HB := Lib.hid hB
    rw [hn0] at hR1 ⊢
    have HR1 := Lib.hid hR1
    have r3 : W0.cell? ⟨n0, 3, none⟩ = some (.slice A x.kids.toList.length c) := cell_of_box hR1 rfl
    clear hB hR1 hW0 hn0 HRD HNS
    go_wp2_with fail
    go_loopw [17] (fun i wr => ∃ k : Nat, k ≤ x.kids.toList.length ∧ i = .int .i64 k ∧ (∀ z ∈ x.kids.toList.take k, visE ns z = 0) ∧ Below W0.heap.size W0 wr) (fun i _ => x.kids.toList.length - (intOf i).toNat)
    case atStart => exact ⟨0, by omega, rfl, by simp, Below.refl _ _⟩
    case round =>
      obtain ⟨wo, rfl⟩ : ∃ W, W = wr := ⟨_, rfl⟩
      obtain ⟨k, hk, rfl, hz, hb⟩ := hrel
      have HZ := Lib.hid hz
      have HBR := Lib.hid hb
      clear hz hb
      by_cases hlt : k < x.kids.toList.length
      · have hx : x.kids.toList[k]? = some x.kids.toList[k] := List.getElem?_eq_getElem hlt
        obtain ⟨y, hye⟩ : ∃ y, x.kids.toList[k] = y := ⟨_, rfl⟩
        rw [hye] at hx
        have HX := Lib.hid hx
        have HM := Lib.hid (List.mem_of_getElem? hx)
        obtain ⟨ba, oa, A1, c1, rfl, hS1, hyr, hg⟩ := (HRD0.out.next HBR.out).at_ hx
        have HG := Lib.hid hg
        have hba : ba < wo.heap.size := hS1.2
        have hb1 := bel_alloc (ob := .cells (exArr y (.slice A1 y.kids.toList.length c1)) 24) (Below.refl wo.heap.size wo)
        have hE1 := heap_alloc_last wo (.cells (exArr y (.slice A1 y.kids.toList.length c1)) 24)
        have HYR := Lib.hid (hyr.next hb1)
        have HNS1 := Lib.hid ((HNS0.out.next HBR.out).next hb1)
        clear hx hye hyr hg hS1
        go_upto_region 6 with (first
          | ((with_reducible refine ex_load ba (oa + k * 4) y (.slice A1 y.kids.toList.length c1) ?hx HG.out ?_); (case hx => rfl)))
        obtain ⟨g, hg⟩ : ∃ g, wo.heap.size = g := ⟨_, rfl⟩
        obtain ⟨W1, hW1⟩ : ∃ W, wo.alloc (.cells #[.int .i64 y.op, .int .i64 y.n, .string (str y.name), .slice A1 y.kids.toList.length c1] 24) = W := ⟨_, rfl⟩
        rw [show wo.alloc (.cells (exArr y (.slice A1 y.kids.toList.length c1)) 24) = W1 from hW1] at hE1 hb1 HYR HNS1
        rw [hg] at hE1
        rw [hg, hW1]
        have HB1 := Lib.hid (show Below W0.heap.size W0 W1 from HBR.out.trans (hb1.mono HBR.out.size))
        have HG1 := Lib.hid (show W1.rangeAt g 0 (exCells y (.slice A1 y.kids.toList.length c1)) from rangeAt_block hE1)
        clear hb1 hE1 hW1 hg
        go_wp2_with (first
          | ((with_reducible refine ex_load g 0 y (.slice A1 y.kids.toList.length c1) ?hx HG1.out ?_); (case hx => rfl)))
        refine (HI.out y (HKS.out y HM.out) (HKF.out y HM.out) (lvl + 1) (by have := HLV.out; omega) (HKD.out y HM.out) A1 c1 _ W1 HYR.out HNS1.out).mono ?_
        rintro e w2 ⟨he, hb2⟩
        obtain ⟨m, hm⟩ : ∃ m, visE ns y = m := ⟨_, rfl⟩
        rw [hm] at he
        subst he
        have HMV := Lib.hid hm
        have HB2 := Lib.hid (show Below W0.heap.size W0 w2 from HB1.out.trans (hb2.mono HB1.out.size))
        clear hb2 hm
        by_cases hm0 : m = 0
        · have hmb : (m != 0) = false := by rw [bne_eq_false_iff_eq]; exact hm0
          have HZZ := Lib.hid (show ∀ z ∈ x.kids.toList.take (k + 1), visE ns z = 0 from fun z hz => by
            rw [List.take_add_one, HX.out] at hz
            rcases List.mem_append.1 hz with hz | hz
            · exact HZ.out z hz
            · have : z = y := by simpa using hz
              rw [this, HMV.out, hm0])
          clear hm0
          go_wp2_with fail
          exact ⟨⟨k + 1, by omega, by go_num, HZZ.out, HB2.out⟩, by simp [intOf]; omega⟩
        · have hmb : (m != 0) = true := by rw [bne_iff_ne]; exact hm0
          have hre : r = m := by rw [← HR.out, visE_first HZ.out HX.out (by rw [HMV.out]; exact hm0), HMV.out]
          subst hre
          clear hm0
          go_wp2_with fail
          go_ret
          exact ⟨rfl, HB.out.trans (HB2.out.mono HB.out.size)⟩
      · have hkl : k = x.kids.toList.length := by omega
        have HVO := Lib.hid (visE_own (ns := ns) (x := x) (by have := HZ.out; rw [hkl, List.take_length] at this; exact this))
        rw [HR.out] at HVO
        have hRW := (HBR.out.block n0 (Array.getElem?_eq_some_iff.1 HR1.out).1).trans HR1.out
        have HRW := Lib.hid hRW
        have r0 : wo.cell? ⟨n0, 0, none⟩ = some (.int .i64 x.op) := cell_of_box hRW rfl
        have r1 : wo.cell? ⟨n0, 1, none⟩ = some (.int .i64 x.n) := cell_of_box hRW rfl
        have r2 : wo.cell? ⟨n0, 2, none⟩ = some (.string (str x.name)) := cell_of_box hRW rfl
        have r3' : wo.cell? ⟨n0, 3, none⟩ = some (.slice A x.kids.toList.length c) := cell_of_box hRW rfl
        have HNSR := Lib.hid (HNS0.out.next HBR.out)
        have HTK := Lib.hid (fun W => takes_any x.op W)
        have hlen : ((x.kids.toList.length : Int) != (takesP x.op : Int)) = false := by rw [bne_eq_false_iff_eq, HT.out]
        have o1 : ¬ x.op < 1 := by omega
        have o11 : ¬ 11 < x.op := by omega
        have htl : (str x.name).toList = x.name := by rw [toList_bts, bts_str]
        have HTL := Lib.hid htl
        clear hRW htl hkl HZ
        by_cases k1 : x.op = 1
        · have b1 : (x.op == 1) = true := by rw [beq_iff_eq]; exact k1
          have b2 : (x.op == 2) = false := by rw [beq_eq_false_iff_ne]; omega
          have c1' : (x.op != 1) = false := by rw [bne_eq_false_iff_eq]; exact k1
          have hne : (str x.name).toList.isEmpty = true := by
            have := H7.out
            rw [if_neg (by omega)] at this
            rw [HTL.out, this]
            rfl
          have hnb : (x.n != 0) = true ∨ (x.n != 0) = false := by cases (x.n != 0) <;> simp
          have HBD := Lib.hid (fun W => bounded_any x.n W)
          rw [decide_eq_true (And.intro h4 h5)] at HBD
          have HV2 := Lib.hid (show r = if x.kids.toList.all (fun a => condP a.op == takesC x.op) = true then 0 else 27 by
            have h9 := HVO.out
            rw [if_neg (by omega)] at h9
            exact h9)
          clear k1 HVO
          rcases hnb with hnb | hnb
          all_goals
            go_wp2_with fail
            go_quiet ((go_at_call 109; exact Calls.quiet_of_same (HTK.out _)))
            go_wp2_with fail
            refine (HBD.out _).mono ?_
            rintro e w9 ⟨he, hw9⟩
            subst hw9
            subst he
            go_wp2_with fail
            go_loopw [87] (fun i wr => ∃ j : Nat, j ≤ x.kids.toList.length ∧ i = .int .i64 j ∧ (∀ z ∈ x.kids.toList.take j, (condP z.op == takesC x.op) = true) ∧ Below wo.heap.size wo wr) (fun i _ => x.kids.toList.length - (intOf i).toNat)
            case atStart => exact ⟨0, by omega, rfl, by simp, below_drewNn (Below.refl _ _) nq⟩
            case round =>
              obtain ⟨j, hj, rfl, hz, hb⟩ := hrel
              have HZ2 := Lib.hid hz
              have HBS := Lib.hid hb
              clear hz hb
              by_cases hlt2 : j < x.kids.toList.length
              · have hx : x.kids.toList[j]? = some x.kids.toList[j] := List.getElem?_eq_getElem hlt2
                obtain ⟨y, hye⟩ : ∃ y, x.kids.toList[j] = y := ⟨_, rfl⟩
                rw [hye] at hx
                have HX := Lib.hid hx
                obtain ⟨ba, oa, A1, c1, rfl, hS1, hyr, hg⟩ := ((HRD0.out.next HBR.out).next HBS.out).at_ hx
                have HG := Lib.hid hg
                have hb1 := bel_alloc (ob := .cells (exArr y (.slice A1 y.kids.toList.length c1)) 24) (Below.refl wr.heap.size wr)
                have hE1 := heap_alloc_last wr (.cells (exArr y (.slice A1 y.kids.toList.length c1)) 24)
                have hba : ba < wr.heap.size := hS1.2
                clear hx hye hyr hg hS1
                go_upto_region 21 with (first
                  | ((with_reducible refine ex_load ba (oa + j * 4) y (.slice A1 y.kids.toList.length c1) ?hx HG.out ?_); (case hx => rfl)))
                obtain ⟨g, hg⟩ : ∃ g, wr.heap.size = g := ⟨_, rfl⟩
                obtain ⟨W1, hW1⟩ : ∃ W, wr.alloc (.cells #[.int .i64 y.op, .int .i64 y.n, .string (str y.name), .slice A1 y.kids.toList.length c1] 24) = W := ⟨_, rfl⟩
                rw [show wr.alloc (.cells (exArr y (.slice A1 y.kids.toList.length c1)) 24) = W1 from hW1] at hE1 hb1
                rw [hg] at hE1
                rw [hg, hW1]
                have HB1 := Lib.hid (show Below wo.heap.size wo W1 from HBS.out.trans (hb1.mono HBS.out.size))
                have s0 : W1.cell? ⟨g, 0, none⟩ = some (.int .i64 y.op) := cell_of_box hE1 rfl
                have s1 : W1.cell? ⟨n0, 0, none⟩ = some (.int .i64 x.op) := (HB1.out.cell (p := ⟨n0, 0, none⟩) (Array.getElem?_eq_some_iff.1 HRW.out).1).trans r0
                obtain ⟨p1, hp1⟩ : ∃ p, condP y.op = p := ⟨_, rfl⟩
                obtain ⟨p2, hp2⟩ : ∃ p, takesC x.op = p := ⟨_, rfl⟩
                have HP1 := Lib.hid hp1
                have HP2 := Lib.hid hp2
                have HC1 := Lib.hid (fun W => isCond_any y.op W)
                have HC2 := Lib.hid (fun W => takesC_any x.op W)
                rw [hp1] at HC1
                rw [hp2] at HC2
                clear hb1 hE1 hW1 hg hp1 hp2
                go_wp2_with fail
                go_quiet ((first | (go_at_call 96; exact Calls.quiet_of_same (HC1.out _)) | (go_at_call 111; exact Calls.quiet_of_same (HC2.out _))))
                have HB3 := Lib.hid (show Below wo.heap.size wo (W1.drewN nq) from below_drewNn HB1.out nq)
                cases p1 with
                | false =>
                  cases p2 with
                  | false =>
                    have HZZ := Lib.hid (show ∀ z ∈ x.kids.toList.take (j + 1), (condP z.op == takesC x.op) = true from fun z hz => by
                      rw [List.take_add_one, HX.out] at hz
                      rcases List.mem_append.1 hz with hz | hz
                      · exact HZ2.out z hz
                      · have : z = y := by simpa using hz
                        rw [this, HP1.out, HP2.out]
                        rfl)
                    go_wp2_with fail
                    exact ⟨⟨j + 1, by omega, by go_num, HZZ.out, HB3.out⟩, by simp [intOf]; omega⟩
                  | true =>
                    have hre : r = 27 := by
                      rw [HV2.out, if_neg]
                      intro h
                      have h8 := List.all_eq_true.1 h y (List.mem_of_getElem? HX.out)
                      rw [HP1.out, HP2.out] at h8
                      cases h8
                    subst hre
                    go_wp2_with fail
                    go_ret
                    exact ⟨rfl, HB.out.trans ((HBR.out.trans (HB3.out.mono HBR.out.size)).mono HB.out.size)⟩
                | true =>
                  cases p2 with
                  | true =>
                    have HZZ := Lib.hid (show ∀ z ∈ x.kids.toList.take (j + 1), (condP z.op == takesC x.op) = true from fun z hz => by
                      rw [List.take_add_one, HX.out] at hz
                      rcases List.mem_append.1 hz with hz | hz
                      · exact HZ2.out z hz
                      · have : z = y := by simpa using hz
                        rw [this, HP1.out, HP2.out]
                        rfl)
                    go_wp2_with fail
                    exact ⟨⟨j + 1, by omega, by go_num, HZZ.out, HB3.out⟩, by simp [intOf]; omega⟩
                  | false =>
                    have hre : r = 27 := by
                      rw [HV2.out, if_neg]
                      intro h
                      have h8 := List.all_eq_true.1 h y (List.mem_of_getElem? HX.out)
                      rw [HP1.out, HP2.out] at h8
                      cases h8
                    subst hre
                    go_wp2_with fail
                    go_ret
                    exact ⟨rfl, HB.out.trans ((HBR.out.trans (HB3.out.mono HBR.out.size)).mono HB.out.size)⟩
              · have hjl : j = x.kids.toList.length := by omega
                have hre : r = 0 := by
                  rw [HV2.out, if_pos]
                  have h8 := HZ2.out
                  rw [hjl, List.take_length] at h8
                  exact List.all_eq_true.2 h8
                subst hre
                clear hjl
                go_wp2_with fail
                go_ret
                exact ⟨rfl, HB.out.trans ((HBR.out.trans (HBS.out.mono HBR.out.size)).mono HB.out.size)⟩
        · by_cases k2 : x.op = 2
          · have b1 : (x.op == 1) = false := by rw [beq_eq_false_iff_ne]; omega
            have b2 : (x.op == 2) = true := by rw [beq_iff_eq]; exact k2
            have c1' : (x.op != 1) = true := by rw [bne_iff_ne]; omega
            have c2' : (x.op != 2) = false := by rw [bne_eq_false_iff_eq]; exact k2
            have hn0 : (x.n != 0) = false := by rw [bne_eq_false_iff_eq]; rcases H6.out with h | h <;> omega
            have hne : (str x.name).toList.isEmpty = false := by
              have := H7.out
              rw [if_pos k2] at this
              rw [HTL.out]
              cases hh : x.name with
              | nil => exact absurd hh this
              | cons a r => rfl
            have HCT := Lib.hid (fun (W : World) (h : RdNs W u ns) => containsS_any ns u x.name W h)
            obtain ⟨q, hq⟩ : ∃ q, decide (x.name ∈ ns) = q := ⟨_, rfl⟩
            rw [hq] at HCT
            have HQ := Lib.hid hq
            have HK2 := Lib.hid k2
            clear k2 hq
            go_wp2_with fail
            go_quiet ((go_at_call 109; exact Calls.quiet_of_same (HTK.out _)))
            go_wp2_with fail
            refine (HCT.out (wo.drewN nq) HNSR.out).mono ?_
            rintro e w9 ⟨he, hw9⟩
            subst hw9
            subst he
            cases q with
            | false =>
              have hre : r = 8 := by
                have h9 := HVO.out
                rw [if_pos ⟨HK2.out, of_decide_eq_false HQ.out⟩] at h9
                exact h9
              subst hre
              go_wp2_with fail
              go_ret
              exact ⟨rfl, HB.out.trans ((below_drewNn HBR.out nq).mono HB.out.size)⟩
            | true =>
              have HV2 := Lib.hid (show r = if x.kids.toList.all (fun a => condP a.op == takesC x.op) = true then 0 else 27 by
                have h9 := HVO.out
                rw [if_neg (fun h => h.2 (of_decide_eq_true HQ.out))] at h9
                exact h9)
              clear HVO
              go_wp2_with fail
              go_loopw [87] (fun i wr => ∃ j : Nat, j ≤ x.kids.toList.length ∧ i = .int .i64 j ∧ (∀ z ∈ x.kids.toList.take j, (condP z.op == takesC x.op) = true) ∧ Below wo.heap.size wo wr) (fun i _ => x.kids.toList.length - (intOf i).toNat)
              case atStart => exact ⟨0, by omega, rfl, by simp, below_drewNn (Below.refl _ _) nq⟩
              case round =>
                obtain ⟨j, hj, rfl, hz, hb⟩ := hrel
                have HZ2 := Lib.hid hz
                have HBS := Lib.hid hb
                clear hz hb
                by_cases hlt2 : j < x.kids.toList.length
                · have hx : x.kids.toList[j]? = some x.kids.toList[j] := List.getElem?_eq_getElem hlt2
                  obtain ⟨y, hye⟩ : ∃ y, x.kids.toList[j] = y := ⟨_, rfl⟩
                  rw [hye] at hx
                  have HX := Lib.hid hx
                  obtain ⟨ba, oa, A1, c1, rfl, hS1, hyr, hg⟩ := ((HRD0.out.next HBR.out).next HBS.out).at_ hx
                  have HG := Lib.hid hg
                  have hb1 := bel_alloc (ob := .cells (exArr y (.slice A1 y.kids.toList.length c1)) 24) (Below.refl wr.heap.size wr)
                  have hE1 := heap_alloc_last wr (.cells (exArr y (.slice A1 y.kids.toList.length c1)) 24)
                  have hba : ba < wr.heap.size := hS1.2
                  clear hx hye hyr hg hS1
                  go_upto_region 21 with (first
                    | ((with_reducible refine ex_load ba (oa + j * 4) y (.slice A1 y.kids.toList.length c1) ?hx HG.out ?_); (case hx => rfl)))
                  obtain ⟨g, hg⟩ : ∃ g, wr.heap.size = g := ⟨_, rfl⟩
                  obtain ⟨W1, hW1⟩ : ∃ W, wr.alloc (.cells #[.int .i64 y.op, .int .i64 y.n, .string (str y.name), .slice A1 y.kids.toList.length c1] 24) = W := ⟨_, rfl⟩
                  rw [show wr.alloc (.cells (exArr y (.slice A1 y.kids.toList.length c1)) 24) = W1 from hW1] at hE1 hb1
                  rw [hg] at hE1
                  rw [hg, hW1]
                  have HB1 := Lib.hid (show Below wo.heap.size wo W1 from HBS.out.trans (hb1.mono HBS.out.size))
                  have s0 : W1.cell? ⟨g, 0, none⟩ = some (.int .i64 y.op) := cell_of_box hE1 rfl
                  have s1 : W1.cell? ⟨n0, 0, none⟩ = some (.int .i64 x.op) := (HB1.out.cell (p := ⟨n0, 0, none⟩) (Array.getElem?_eq_some_iff.1 HRW.out).1).trans r0
                  obtain ⟨p1, hp1⟩ : ∃ p, condP y.op = p := ⟨_, rfl⟩
                  obtain ⟨p2, hp2⟩ : ∃ p, takesC x.op = p := ⟨_, rfl⟩
                  have HP1 := Lib.hid hp1
                  have HP2 := Lib.hid hp2
                  have HC1 := Lib.hid (fun W => isCond_any y.op W)
                  have HC2 := Lib.hid (fun W => takesC_any x.op W)
                  rw [hp1] at HC1
                  rw [hp2] at HC2
                  clear hb1 hE1 hW1 hg hp1 hp2
                  go_wp2_with fail
                  go_quiet ((first | (go_at_call 96; exact Calls.quiet_of_same (HC1.out _)) | (go_at_call 111; exact Calls.quiet_of_same (HC2.out _))))
                  have HB3 := Lib.hid (show Below wo.heap.size wo (W1.drewN nq) from below_drewNn HB1.out nq)
                  cases p1 with
                  | false =>
                    cases p2 with
                    | false =>
                      have HZZ := Lib.hid (show ∀ z ∈ x.kids.toList.take (j + 1), (condP z.op == takesC x.op) = true from fun z hz => by
                        rw [List.take_add_one, HX.out] at hz
                        rcases List.mem_append.1 hz with hz | hz
                        · exact HZ2.out z hz
                        · have : z = y := by simpa using hz
                          rw [this, HP1.out, HP2.out]
                          rfl)
                      go_wp2_with fail
                      exact ⟨⟨j + 1, by omega, by go_num, HZZ.out, HB3.out⟩, by simp [intOf]; omega⟩
                    | true =>
                      have hre : r = 27 := by
                        rw [HV2.out, if_neg]
                        intro h
                        have h8 := List.all_eq_true.1 h y (List.mem_of_getElem? HX.out)
                        rw [HP1.out, HP2.out] at h8
                        cases h8
                      subst hre
                      go_wp2_with fail
                      go_ret
                      exact ⟨rfl, HB.out.trans ((HBR.out.trans (HB3.out.mono HBR.out.size)).mono HB.out.size)⟩
                  | true =>
                    cases p2 with
                    | true =>
                      have HZZ := Lib.hid (show ∀ z ∈ x.kids.toList.take (j + 1), (condP z.op == takesC x.op) = true from fun z hz => by
                        rw [List.take_add_one, HX.out] at hz
                        rcases List.mem_append.1 hz with hz | hz
                        · exact HZ2.out z hz
                        · have : z = y := by simpa using hz
                          rw [this, HP1.out, HP2.out]
                          rfl)
                      go_wp2_with fail
                      exact ⟨⟨j + 1, by omega, by go_num, HZZ.out, HB3.out⟩, by simp [intOf]; omega⟩
                    | false =>
                      have hre : r = 27 := by
                        rw [HV2.out, if_neg]
                        intro h
                        have h8 := List.all_eq_true.1 h y (List.mem_of_getElem? HX.out)
                        rw [HP1.out, HP2.out] at h8
                        cases h8
                      subst hre
                      go_wp2_with fail
                      go_ret
                      exact ⟨rfl, HB.out.trans ((HBR.out.trans (HB3.out.mono HBR.out.size)).mono HB.out.size)⟩
                · have hjl : j = x.kids.toList.length := by omega
                  have hre : r = 0 := by
                    rw [HV2.out, if_pos]
                    have h8 := HZ2.out
                    rw [hjl, List.take_length] at h8
                    exact List.all_eq_true.2 h8
                  subst hre
                  clear hjl
                  go_wp2_with fail
                  go_ret
                  exact ⟨rfl, HB.out.trans ((HBR.out.trans (HBS.out.mono HBR.out.size)).mono HB.out.size)⟩
          · have b1 : (x.op == 1) = false := by rw [beq_eq_false_iff_ne]; omega
            have b2 : (x.op == 2) = false := by rw [beq_eq_false_iff_ne]; exact k2
            have c1' : (x.op != 1) = true := by rw [bne_iff_ne]; omega
            have c2' : (x.op != 2) = true := by rw [bne_iff_ne]; exact k2
            have hn0 : (x.n != 0) = false := by rw [bne_eq_false_iff_eq]; rcases H6.out with h | h <;> omega
            have hne : (str x.name).toList.isEmpty = true := by
              have := H7.out
              rw [if_neg k2] at this
              rw [HTL.out, this]
              rfl
            have HV2 := Lib.hid (show r = if x.kids.toList.all (fun a => condP a.op == takesC x.op) = true then 0 else 27 by
              have h9 := HVO.out
              rw [if_neg (fun h => k2 h.1)] at h9
              exact h9)
            clear k2 HVO
            go_wp2_with fail
            go_quiet ((go_at_call 109; exact Calls.quiet_of_same (HTK.out _)))
            go_wp2_with fail
            go_loopw [87] (fun i wr => ∃ j : Nat, j ≤ x.kids.toList.length ∧ i = .int .i64 j ∧ (∀ z ∈ x.kids.toList.take j, (condP z.op == takesC x.op) = true) ∧ Below wo.heap.size wo wr) (fun i _ => x.kids.toList.length - (intOf i).toNat)
            case atStart => exact ⟨0, by omega, rfl, by simp, below_drewNn (Below.refl _ _) nq⟩
            case round =>
              obtain ⟨j, hj, rfl, hz, hb⟩ := hrel
              have HZ2 := Lib.hid hz
              have HBS := Lib.hid hb
              clear hz hb
              by_cases hlt2 : j < x.kids.toList.length
              · have hx : x.kids.toList[j]? = some x.kids.toList[j] := List.getElem?_eq_getElem hlt2
                obtain ⟨y, hye⟩ : ∃ y, x.kids.toList[j] = y := ⟨_, rfl⟩
                rw [hye] at hx
                have HX := Lib.hid hx
                obtain ⟨ba, oa, A1, c1, rfl, hS1, hyr, hg⟩ := ((HRD0.out.next HBR.out).next HBS.out).at_ hx
                have HG := Lib.hid hg
                have hb1 := bel_alloc (ob := .cells (exArr y (.slice A1 y.kids.toList.length c1)) 24) (Below.refl wr.heap.size wr)
                have hE1 := heap_alloc_last wr (.cells (exArr y (.slice A1 y.kids.toList.length c1)) 24)
                have hba : ba < wr.heap.size := hS1.2
                clear hx hye hyr hg hS1
                go_upto_region 21 with (first
                  | ((with_reducible refine ex_load ba (oa + j * 4) y (.slice A1 y.kids.toList.length c1) ?hx HG.out ?_); (case hx => rfl)))
                obtain ⟨g, hg⟩ : ∃ g, wr.heap.size = g := ⟨_, rfl⟩
                obtain ⟨W1, hW1⟩ : ∃ W, wr.alloc (.cells #[.int .i64 y.op, .int .i64 y.n, .string (str y.name), .slice A1 y.kids.toList.length c1] 24) = W := ⟨_, rfl⟩
                rw [show wr.alloc (.cells (exArr y (.slice A1 y.kids.toList.length c1)) 24) = W1 from hW1] at hE1 hb1
                rw [hg] at hE1
                rw [hg, hW1]
                have HB1 := Lib.hid (show Below wo.heap.size wo W1 from HBS.out.trans (hb1.mono HBS.out.size))
                have s0 : W1.cell? ⟨g, 0, none⟩ = some (.int .i64 y.op) := cell_of_box hE1 rfl
                have s1 : W1.cell? ⟨n0, 0, none⟩ = some (.int .i64 x.op) := (HB1.out.cell (p := ⟨n0, 0, none⟩) (Array.getElem?_eq_some_iff.1 HRW.out).1).trans r0
                obtain ⟨p1, hp1⟩ : ∃ p, condP y.op = p := ⟨_, rfl⟩
                obtain ⟨p2, hp2⟩ : ∃ p, takesC x.op = p := ⟨_, rfl⟩
                have HP1 := Lib.hid hp1
                have HP2 := Lib.hid hp2
                have HC1 := Lib.hid (fun W => isCond_any y.op W)
                have HC2 := Lib.hid (fun W => takesC_any x.op W)
                rw [hp1] at HC1
                rw [hp2] at HC2
                clear hb1 hE1 hW1 hg hp1 hp2
                go_wp2_with fail
                go_quiet ((first | (go_at_call 96; exact Calls.quiet_of_same (HC1.out _)) | (go_at_call 111; exact Calls.quiet_of_same (HC2.out _))))
                have HB3 := Lib.hid (show Below wo.heap.size wo (W1.drewN nq) from below_drewNn HB1.out nq)
                cases p1 with
                | false =>
                  cases p2 with
                  | false =>
                    have HZZ := Lib.hid (show ∀ z ∈ x.kids.toList.take (j + 1), (condP z.op == takesC x.op) = true from fun z hz => by
                      rw [List.take_add_one, HX.out] at hz
                      rcases List.mem_append.1 hz with hz | hz
                      · exact HZ2.out z hz
                      · have : z = y := by simpa using hz
                        rw [this, HP1.out, HP2.out]
                        rfl)
                    go_wp2_with fail
                    exact ⟨⟨j + 1, by omega, by go_num, HZZ.out, HB3.out⟩, by simp [intOf]; omega⟩
                  | true =>
                    have hre : r = 27 := by
                      rw [HV2.out, if_neg]
                      intro h
                      have h8 := List.all_eq_true.1 h y (List.mem_of_getElem? HX.out)
                      rw [HP1.out, HP2.out] at h8
                      cases h8
                    subst hre
                    go_wp2_with fail
                    go_ret
                    exact ⟨rfl, HB.out.trans ((HBR.out.trans (HB3.out.mono HBR.out.size)).mono HB.out.size)⟩
                | true =>
                  cases p2 with
                  | true =>
                    have HZZ := Lib.hid (show ∀ z ∈ x.kids.toList.take (j + 1), (condP z.op == takesC x.op) = true from fun z hz => by
                      rw [List.take_add_one, HX.out] at hz
                      rcases List.mem_append.1 hz with hz | hz
                      · exact HZ2.out z hz
                      · have : z = y := by simpa using hz
                        rw [this, HP1.out, HP2.out]
                        rfl)
                    go_wp2_with fail
                    exact ⟨⟨j + 1, by omega, by go_num, HZZ.out, HB3.out⟩, by simp [intOf]; omega⟩
                  | false =>
                    have hre : r = 27 := by
                      rw [HV2.out, if_neg]
                      intro h
                      have h8 := List.all_eq_true.1 h y (List.mem_of_getElem? HX.out)
                      rw [HP1.out, HP2.out] at h8
                      cases h8
                    subst hre
                    go_wp2_with fail
                    go_ret
                    exact ⟨rfl, HB.out.trans ((HBR.out.trans (HB3.out.mono HBR.out.size)).mono HB.out.size)⟩
              · have hjl : j = x.kids.toList.length := by omega
                have hre : r = 0 := by
                  rw [HV2.out, if_pos]
                  have h8 := HZ2.out
                  rw [hjl, List.take_length] at h8
                  exact List.all_eq_true.2 h8
                subst hre
                clear hjl
                go_wp2_with fail
                go_ret
                exact ⟨rfl, HB.out.trans ((HBR.out.trans (HBS.out.mono HBR.out.size)).mono HB.out.size)⟩

end Go.Proofs.YtkalkglllgebkaaDoor

namespace Saw
theorem checkRs_first {ns : List (List UInt8)} {l : List Rl} {k : Nat} {y : Rl} (hz : ∀ z ∈ l.take k, checkE ns z.when_ = 0) (h : l[k]? = some y) (he : checkE ns y.when_ ≠ 0) : checkRs ns l = checkE ns y.when_ := by
  refine firstE_at _ k _ (fun e hm => ?_) (by rw [List.getElem?_map, h]; rfl) he
  rw [← List.map_take] at hm
  obtain ⟨z, hz1, rfl⟩ := List.mem_map.1 hm
  exact hz z hz1
theorem checkRs_zero {ns : List (List UInt8)} {l : List Rl} (hz : ∀ z ∈ l, checkE ns z.when_ = 0) : checkRs ns l = 0 := by
  refine firstE_zero _ fun e hm => ?_
  obtain ⟨z, hz1, rfl⟩ := List.mem_map.1 hm
  exact hz z hz1
end Saw
namespace Go.Proofs.YtkalkglllgebkaaDoor
open Go.RowKit Saw Go.Sort

set_option maxRecDepth 100000 in
set_option maxHeartbeats 1000000 in
theorem check_any (ns : List (List UInt8)) (x : Ex) (hw : wellP x = true) (A : Option Addr) (c : Nat) (u : Value) (w : World) (hrd : RdFo w (Iv 0 w.heap.size) (.slice A x.kids.toList.length c) x.kids) (hns : RdNs w u ns) :
    Calls Tryd.prog 82 #[.agg #[.int .i64 x.op, .int .i64 x.n, .string (str x.name), .slice A x.kids.toList.length c], u] w (IntB (checkE ns x) w) := by
  obtain ⟨hf, hd⟩ := well_split hw
  have HV := Lib.hid (visit_any ns x.size x (Nat.le_refl _) hf 1 (by decide) (by omega))
  have HRD := Lib.hid hrd
  have HNS := Lib.hid hns
  obtain ⟨r, hr⟩ : ∃ r, checkE ns x = r := ⟨_, rfl⟩
  rw [hr]
  have HR := Lib.hid hr
  have hB := bel_alloc (ob := .cells (exArr x (.slice A x.kids.toList.length c)) 24) (Below.refl w.heap.size w)
  have hR1 := heap_alloc_last w (.cells (exArr x (.slice A x.kids.toList.length c)) 24)
  clear hrd hns hr hf hd hw
  go_enter Tryd.func82, Tryd.ntmps82
  go_upto_region 1 with fail
  obtain ⟨n0, hn0⟩ : ∃ n, w.heap.size = n := ⟨_, rfl⟩
  obtain ⟨W0, hW0⟩ : ∃ W, w.alloc (.cells #[.int .i64 x.op, .int .i64 x.n, .string (str x.name), .slice A x.kids.toList.length c] 24) = W := ⟨_, rfl⟩
  rw [show w.alloc (.cells (exArr x (.slice A x.kids.toList.length c)) 24) = W0 from hW0] at hB hR1
  rw [hW0]
  have HRD0 := Lib.hid (HRD.out.next hB)
  have HNS0 := Lib.hid (HNS.out.next hB)
  have HB := Lib.hid hB
  rw [hn0] at hR1 ⊢
  have HR1 := Lib.hid hR1
  have HG := Lib.hid (show W0.rangeAt n0 0 (exCells x (.slice A x.kids.toList.length c)) from rangeAt_block hR1)
  clear hB hR1 hW0 hn0 HRD HNS
  go_wp2_with (first
    | ((with_reducible refine ex_load n0 0 x (.slice A x.kids.toList.length c) ?hx HG.out ?_); (case hx => rfl)))
  refine (HV.out A c _ W0 HRD0.out HNS0.out).mono ?_
  rintro e w1 ⟨he, hb⟩
  obtain ⟨m, hm⟩ : ∃ m, visE ns x = m := ⟨_, rfl⟩
  rw [hm] at he
  subst he
  have HM := Lib.hid hm
  have HB1 := Lib.hid (bel_call HB.out hb)
  have r0 : w1.cell? ⟨n0, 0, none⟩ = some (.int .i64 x.op) := (hb.cell (p := ⟨n0, 0, none⟩) (Array.getElem?_eq_some_iff.1 HR1.out).1).trans (cell_of_box HR1.out rfl)
  clear hb hm
  by_cases hm0 : m = 0
  · have hmb : (m != 0) = false := by rw [bne_eq_false_iff_eq]; exact hm0
    obtain ⟨q, hq⟩ : ∃ q, condP x.op = q := ⟨_, rfl⟩
    have HC := Lib.hid (isCond_any x.op w1)
    rw [hq] at HC
    have HRE := Lib.hid (show r = if q = true then 0 else 27 by rw [← HR.out, checkE, HM.out, hm0, if_neg (by decide), hq])
    clear hm0 hq
    go_wp2_with fail
    refine HC.out.mono ?_
    rintro e w2 ⟨he, rfl⟩
    subst he
    cases q with
    | true =>
      have hre : r = 0 := HRE.out
      subst hre
      go_wp2_with fail
      go_ret
      exact ⟨rfl, HB1.out⟩
    | false =>
      have hre : r = 27 := HRE.out
      subst hre
      go_wp2_with fail
      go_ret
      exact ⟨rfl, HB1.out⟩
  · have hmb : (m != 0) = true := by rw [bne_iff_ne]; exact hm0
    have hre : r = m := by rw [← HR.out, checkE, HM.out, if_pos hm0]
    subst hre
    clear hm0
    go_wp2_with fail
    go_ret
    exact ⟨rfl, HB1.out⟩

set_option maxRecDepth 100000 in
set_option maxHeartbeats 2000000 in
theorem checkRs_any (ns : List (List UInt8)) (l : List Rl) (hok : ∀ r ∈ l, ruleOk r = true) (h32 : l.length ≤ 32) (v u : Value) (w : World) (hrd : RdRl w v l) (hns : RdNs w u ns) :
    Calls Tryd.prog 53 #[v, u] w (IntB (checkRs ns l) w) := by
  obtain ⟨A, c, rfl, hc, hml⟩ := hrd.form
  clear hc hml
  obtain ⟨r, hr⟩ : ∃ r, checkRs ns l = r := ⟨_, rfl⟩
  rw [hr]
  have HR := Lib.hid hr
  have HRD := Lib.hid hrd
  have HNS := Lib.hid hns
  have HOK := Lib.hid hok
  have h32' : ¬ (32 : Int) < (l.length : Int) := by omega
  clear hr hrd hns hok
  go_enter Tryd.func53, Tryd.ntmps53
  go_wp2_with fail
  go_loopw [13] (fun i wr => ∃ k : Nat, k ≤ l.length ∧ i = .int .i64 k ∧ (∀ z ∈ l.take k, checkE ns z.when_ = 0) ∧ Below w.heap.size w wr) (fun i _ => l.length - (intOf i).toNat)
  case atStart => exact ⟨0, by omega, rfl, by simp, Below.refl _ _⟩
  case round =>
    obtain ⟨k, hk, rfl, hz, hb⟩ := hrel
    have HZ := Lib.hid hz
    have HB := Lib.hid hb
    clear hz hb
    by_cases hlt : k < l.length
    · have hx : l[k]? = some l[k] := List.getElem?_eq_getElem hlt
      obtain ⟨x, hxe⟩ : ∃ x, l[k] = x := ⟨_, rfl⟩
      rw [hxe] at hx
      have HX := Lib.hid hx
      have hxo := ruleOk_split (HOK.out x (List.mem_of_getElem? hx))
      have HWL := Lib.hid hxo.2.2
      have g1 : ¬ x.grade < 0 := by omega
      have g2 : ¬ 9 < x.grade := by omega
      obtain ⟨b, off, A1, c1, rfl, hbl, hyr, hg⟩ := (HRD.out.next HB.out).at_ hx
      have HG := Lib.hid hg
      have hb1 := bel_alloc (ob := .cells #[.int .i64 x.grade, .int .i64 x.when_.op, .int .i64 x.when_.n, .string (str x.when_.name), .slice A1 x.when_.kids.toList.length c1] 58) (Below.refl wr.heap.size wr)
      have hV1 := heap_alloc_last wr (.cells #[.int .i64 x.grade, .int .i64 x.when_.op, .int .i64 x.when_.n, .string (str x.when_.name), .slice A1 x.when_.kids.toList.length c1] 58)
      have HYR := Lib.hid (hyr.next hb1)
      have HNS1 := Lib.hid ((HNS.out.next HB.out).next hb1)
      clear hx hxe hyr hg hxo
      go_upto_region 6 with (first
        | ((with_reducible refine rl_load b (off + k * 5) x (.slice A1 x.when_.kids.toList.length c1) ?hx HG.out ?_); (case hx => rfl)))
      obtain ⟨N, hN⟩ : ∃ N, wr.heap.size = N := ⟨_, rfl⟩
      obtain ⟨V, hV⟩ : ∃ V, wr.alloc (.cells #[.int .i64 x.grade, .int .i64 x.when_.op, .int .i64 x.when_.n, .string (str x.when_.name), .slice A1 x.when_.kids.toList.length c1] 58) = V := ⟨_, rfl⟩
      rw [hV] at hb1 hV1 HYR HNS1 ⊢
      rw [hN] at hV1 ⊢
      have HB1 := Lib.hid (show Below w.heap.size w V from HB.out.trans (hb1.mono HB.out.size))
      have p0 : V.cell? ⟨N, 0, none⟩ = some (.int .i64 x.grade) := cell_of_box hV1 rfl
      have HGV := Lib.hid (show V.rangeAt N 1 (exCells x.when_ (.slice A1 x.when_.kids.toList.length c1)) from rangeAt_of4 (cell_of_box hV1 rfl) (cell_of_box hV1 rfl) (cell_of_box hV1 rfl) (cell_of_box hV1 rfl))
      clear hb1 hV1 hV hN
      go_wp2_with (first
        | ((with_reducible refine ex_load N 1 x.when_ (.slice A1 x.when_.kids.toList.length c1) ?hx HGV.out ?_); (case hx => rfl)))
      refine (check_any ns x.when_ HWL.out A1 c1 _ V HYR.out HNS1.out).mono ?_
      rintro e w2 ⟨he, hb2⟩
      obtain ⟨m, hm⟩ : ∃ m, checkE ns x.when_ = m := ⟨_, rfl⟩
      rw [hm] at he
      subst he
      have HM := Lib.hid hm
      have HB2 := Lib.hid (bel_call HB1.out hb2)
      clear hb2 hm
      by_cases hm0 : m = 0
      · have hmb : (m != 0) = false := by rw [bne_eq_false_iff_eq]; exact hm0
        have HZZ := Lib.hid (show ∀ z ∈ l.take (k + 1), checkE ns z.when_ = 0 from fun z hz => by
          rw [List.take_add_one, HX.out] at hz
          rcases List.mem_append.1 hz with hz | hz
          · exact HZ.out z hz
          · have : z = x := by simpa using hz
            rw [this, HM.out, hm0])
        clear hm0
        go_wp2_with fail
        exact ⟨⟨k + 1, by omega, by go_num, HZZ.out, HB2.out⟩, by simp [intOf]; omega⟩
      · have hmb : (m != 0) = true := by rw [bne_iff_ne]; exact hm0
        have hre : r = m := by rw [← HR.out, checkRs_first HZ.out HX.out (by rw [HM.out]; exact hm0), HM.out]
        subst hre
        clear hm0
        go_wp2_with fail
        go_ret
        exact ⟨rfl, HB2.out⟩
    · have hkl : k = l.length := by omega
      have hre : r = 0 := by
        rw [← HR.out]
        refine checkRs_zero ?_
        have := HZ.out
        rw [hkl, List.take_length] at this
        exact this
      subst hre
      clear hkl
      go_wp2_with fail
      go_ret
      exact ⟨rfl, HB.out⟩

def GradePost (r : Int × Int × Int) (w : World) (e : Ending) (w' : World) : Prop := e = .returned (.tuple #[.int .i64 r.1, .int .i64 r.2.1, .int .i64 r.2.2]) ∧ Below w.heap.size w w'

set_option maxRecDepth 100000 in
set_option maxHeartbeats 2000000 in
theorem grade_any (l : List Rl) (f : List Ft) (hok : ∀ r ∈ l, ruleOk r = true) (h32 : l.length ≤ 32) (hfl : f.length ≤ 1000) (v u : Value) (w : World) (hrd : RdRl w v l) (hft : RdFt w u f) :
    Calls Tryd.prog 27 #[v, u] w (GradePost (gradeP l f) w) := by
  obtain ⟨A, c, rfl, hc, hml⟩ := hrd.form
  clear hc hml
  obtain ⟨r, hr⟩ : ∃ r, gradeP l f = r := ⟨_, rfl⟩
  rw [hr]
  have HR := Lib.hid hr
  have HRD := Lib.hid hrd
  have HFT := Lib.hid hft
  have HOK := Lib.hid hok
  clear hr hrd hft hok
  go_enter Tryd.func27, Tryd.ntmps27
  go_wp2_with fail
  refine (names_any f u w HFT.out hfl).mono ?_
  rintro e w1 ⟨nv, he, hns, hb⟩
  subst he
  have HB1 := Lib.hid hb
  have HRD1 := Lib.hid (HRD.out.next hb)
  have HFT1 := Lib.hid (HFT.out.next hb)
  have HNS := Lib.hid hns
  clear hb hns HRD HFT
  go_wp2_with fail
  refine (checkRs_any (f.map (·.name)) l HOK.out h32 _ nv w1 HRD1.out HNS.out).mono ?_
  rintro e w2 ⟨he, hb⟩
  obtain ⟨m, hm⟩ : ∃ m, checkRs (f.map (·.name)) l = m := ⟨_, rfl⟩
  rw [hm] at he
  subst he
  have HM := Lib.hid hm
  have HB2 := Lib.hid (bel_call HB1.out hb)
  have HRD2 := Lib.hid (HRD1.out.next hb)
  have HFT2 := Lib.hid (HFT1.out.next hb)
  clear hb hm HRD1 HFT1 HB1 HNS
  by_cases hm0 : m = 0
  case neg =>
    have hmb : (m != 0) = true := by rw [bne_iff_ne]; exact hm0
    have hre : r = (0, 0, m) := by rw [← HR.out, gradeP, HM.out, if_pos hm0]
    subst hre
    clear hm0
    go_wp2_with fail
    go_ret3
    exact ⟨rfl, HB2.out⟩
  have hmb : (m != 0) = false := by rw [bne_eq_false_iff_eq]; exact hm0
  have HGL := Lib.hid (show gradeL f 0 l = r by rw [← HR.out, gradeP, HM.out, hm0, if_neg (by decide)])
  clear hm0
  go_wp2_with fail
  go_loopw [21] (fun i wr => ∃ k : Nat, k ≤ l.length ∧ i = .int .i64 k ∧ gradeL f k (l.drop k) = r ∧ Below w2.heap.size w2 wr) (fun i _ => l.length - (intOf i).toNat)
  case atStart => exact ⟨0, by omega, rfl, by rw [List.drop_zero]; exact HGL.out, Below.refl _ _⟩
  case round =>
    obtain ⟨k, hk, rfl, hg, hb⟩ := hrel
    have HGD := Lib.hid hg
    have HB := Lib.hid hb
    clear hg hb
    by_cases hlt : k < l.length
    · have hx : l[k]? = some l[k] := List.getElem?_eq_getElem hlt
      have hdr := List.drop_eq_getElem_cons hlt
      obtain ⟨x, hxe⟩ : ∃ x, l[k] = x := ⟨_, rfl⟩
      rw [hxe] at hx hdr
      obtain ⟨hwf, hwd⟩ := well_split (ruleOk_split (HOK.out x (List.mem_of_getElem? hx))).2.2
      have HVL := Lib.hid (ruleValue_any f x.when_.size x.when_ (Nat.le_refl _) hwf (by omega))
      obtain ⟨b, off, A1, c1, rfl, hbl, hyr, hg⟩ := (HRD2.out.next HB.out).at_ hx
      have HG := Lib.hid hg
      have hb1 := bel_alloc (ob := .cells #[.int .i64 x.grade, .int .i64 x.when_.op, .int .i64 x.when_.n, .string (str x.when_.name), .slice A1 x.when_.kids.toList.length c1] 58) (Below.refl wr.heap.size wr)
      have hV1 := heap_alloc_last wr (.cells #[.int .i64 x.grade, .int .i64 x.when_.op, .int .i64 x.when_.n, .string (str x.when_.name), .slice A1 x.when_.kids.toList.length c1] 58)
      have HYR := Lib.hid (hyr.next hb1)
      have HF1 := Lib.hid ((HFT2.out.next HB.out).next hb1)
      have hgd := HGD.out
      rw [hdr, gradeL] at hgd
      have HGE := Lib.hid hgd
      clear hx hxe hyr hg hwf hwd hdr hgd
      go_upto_region 7 with (first
        | ((with_reducible refine rl_load b (off + k * 5) x (.slice A1 x.when_.kids.toList.length c1) ?hx HG.out ?_); (case hx => rfl)))
      obtain ⟨N, hN⟩ : ∃ N, wr.heap.size = N := ⟨_, rfl⟩
      obtain ⟨V, hV⟩ : ∃ V, wr.alloc (.cells #[.int .i64 x.grade, .int .i64 x.when_.op, .int .i64 x.when_.n, .string (str x.when_.name), .slice A1 x.when_.kids.toList.length c1] 58) = V := ⟨_, rfl⟩
      rw [hV] at hb1 hV1 HYR HF1 ⊢
      rw [hN] at hV1 ⊢
      have HB1 := Lib.hid (show Below w2.heap.size w2 V from HB.out.trans (hb1.mono HB.out.size))
      have HV1 := Lib.hid hV1
      have HGV := Lib.hid (show V.rangeAt N 1 (exCells x.when_ (.slice A1 x.when_.kids.toList.length c1)) from rangeAt_of4 (cell_of_box hV1 rfl) (cell_of_box hV1 rfl) (cell_of_box hV1 rfl) (cell_of_box hV1 rfl))
      clear hb1 hV1 hV hN
      go_wp2_with (first
        | ((with_reducible refine ex_load N 1 x.when_ (.slice A1 x.when_.kids.toList.length c1) ?hx HGV.out ?_); (case hx => rfl)))
      refine (HVL.out A1 c1 _ V HYR.out HF1.out).mono ?_
      rintro e w3 ⟨he, hb3⟩
      obtain ⟨y, hy⟩ : ∃ y, valE f x.when_ = y := ⟨_, rfl⟩
      rw [hy] at he
      subst he
      have HB3 := Lib.hid (show Below w2.heap.size w2 w3 from HB1.out.trans (hb3.mono HB1.out.size))
      have p0 : w3.cell? ⟨N, 0, none⟩ = some (.int .i64 x.grade) := (hb3.cell (p := ⟨N, 0, none⟩) (Array.getElem?_eq_some_iff.1 HV1.out).1).trans (cell_of_box HV1.out rfl)
      have hge := HGE.out
      rw [hy] at hge
      have HGF := Lib.hid hge
      clear hb3 hy hge HGE
      by_cases h0 : y.2 = 0
      · have h0b : (y.2 != 0) = false := by rw [bne_eq_false_iff_eq]; exact h0
        have hge := HGF.out
        rw [if_neg (by rw [h0]; decide)] at hge
        by_cases h1 : y.1 = 1
        · have h1b : (y.1 == 1) = true := by rw [beq_iff_eq]; exact h1
          rw [if_pos h1] at hge
          subst hge
          clear h0 h1
          go_wp2_with fail
          go_ret3
          exact ⟨rfl, HB2.out.trans (HB3.out.mono HB2.out.size)⟩
        · have h1b : (y.1 == 1) = false := by rw [beq_eq_false_iff_ne]; exact h1
          rw [if_neg h1] at hge
          have HGG := Lib.hid hge
          clear h0 h1 hge
          go_wp2_with fail
          exact ⟨⟨k + 1, by omega, by go_num, HGG.out, HB3.out⟩, by simp [intOf]; omega⟩
      · have h0b : (y.2 != 0) = true := by rw [bne_iff_ne]; exact h0
        have hge := HGF.out
        rw [if_pos h0] at hge
        subst hge
        clear h0
        go_wp2_with fail
        go_ret3
        exact ⟨rfl, HB2.out.trans (HB3.out.mono HB2.out.size)⟩
    · have hre : r = (0, -1, 0) := by rw [← HGD.out, List.drop_eq_nil_of_le (by omega)]; rfl
      subst hre
      clear HGD
      go_wp2_with fail
      go_ret3
      exact ⟨rfl, HB2.out.trans (HB.out.mono HB2.out.size)⟩

end Go.Proofs.YtkalkglllgebkaaDoor
