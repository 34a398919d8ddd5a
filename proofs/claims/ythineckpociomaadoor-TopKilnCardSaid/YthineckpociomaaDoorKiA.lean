/-
  Lists of numbers and points in memory; the contracts of curve's small functions on what is a curve.
-/
import Derived.Test.YthineckpociomaaDoorScA
import Derived.Test.YthineckpociomaaDoorKiQ
import Derived.BigQuiet
import Derived.Deep.RegionWith
namespace Go.Proofs.YthineckpociomaaDoor
open Go.RowKit Saw

def ints (l : List Int) : List Value := l.map (Value.int .i64)
/-- The slice value v reads as the numbers l; it lies below block B. -/
def RdI (w : World) (B : Nat) (v : Value) (l : List Int) : Prop := Rd w B 1 v l.length (ints l)
theorem RdI.form {w : World} {B : Nat} {v : Value} {l : List Int} (h : RdI w B v l) : ∃ A c, v = .slice A l.length c ∧ l.length ≤ c ∧ l.length ≤ maxLen := by
  obtain ⟨_, h2, A, c, rfl, hc, _⟩ := h
  exact ⟨A, c, rfl, hc, h2⟩
theorem RdI.at_ {w : World} {B : Nat} {A : Option Addr} {n c : Nat} {l : List Int} (h : RdI w B (.slice A n c) l) {i : Nat} {x : Int} (hx : l[i]? = some x) :
    ∃ b off, A = some ⟨b, off, none⟩ ∧ b < B ∧ w.cell? ⟨b, off + i, none⟩ = some (.int .i64 x) := by
  obtain ⟨_, _, A', c', he, _, h3⟩ := h
  injection he with h1 h2 h5
  subst h1
  obtain ⟨b, off, rfl, hb, hcell⟩ := h3 (by have := (List.getElem?_eq_some_iff.1 hx).1; omega)
  exact ⟨b, off, rfl, hb, hcell i _ (by rw [ints, List.getElem?_map, hx]; rfl)⟩
theorem RdI.below {w w' : World} {B : Nat} {v : Value} {l : List Int} (h : RdI w B v l) (hb : Below B w w') : RdI w' B v l := Rd.below h hb
theorem RdI.more {w : World} {B B' : Nat} {v : Value} {l : List Int} (h : RdI w B v l) (hB : B ≤ B') : RdI w B' v l := Rd.more h hB
theorem RdI.next {w w' : World} {v : Value} {l : List Int} (h : RdI w w.heap.size v l) (hb : Below w.heap.size w w') : RdI w' w'.heap.size v l := (h.below hb).more hb.size

def ptCells (p : Int × Int) : List Value := [.int .i64 p.1, .int .i64 p.2]
def ptsCells (l : List (Int × Int)) : List Value := l.flatMap ptCells
theorem ptsCells_length (l : List (Int × Int)) : (ptsCells l).length = l.length * 2 := by
  induction l with
  | nil => rfl
  | cons x r ih => rw [ptsCells, List.flatMap_cons, List.length_append, ← ptsCells, ih, List.length_cons]; simp [ptCells]; omega
theorem pts_at (l : List (Int × Int)) (i : Nat) (x : Int × Int) (h : l[i]? = some x) (j : Nat) (hj : j < 2) : (ptsCells l)[i * 2 + j]? = (ptCells x)[j]? := by
  induction l generalizing i with
  | nil => simp at h
  | cons y r ih =>
    have e : (ptCells y).length = 2 := rfl
    rw [ptsCells, List.flatMap_cons, ← ptsCells]
    cases i with
    | zero =>
      simp only [List.getElem?_cons_zero, Option.some.injEq] at h
      subst h
      rw [List.getElem?_append_left (by rw [e]; omega), Nat.zero_mul, Nat.zero_add]
    | succ k =>
      simp only [List.getElem?_cons_succ] at h
      rw [List.getElem?_append_right (by rw [e]; omega), e, ← ih k h]
      congr 1
      omega
/-- The slice value v reads as the points l; it lies below block B. -/
def RdPt (w : World) (B : Nat) (v : Value) (l : List (Int × Int)) : Prop := Rd w B 2 v l.length (ptsCells l)
theorem RdPt.form {w : World} {B : Nat} {v : Value} {l : List (Int × Int)} (h : RdPt w B v l) : ∃ A c, v = .slice A l.length c ∧ l.length ≤ c ∧ l.length ≤ maxLen := by
  obtain ⟨_, h2, A, c, rfl, hc, _⟩ := h
  exact ⟨A, c, rfl, hc, h2⟩
theorem RdPt.at_ {w : World} {B : Nat} {A : Option Addr} {n c : Nat} {l : List (Int × Int)} (h : RdPt w B (.slice A n c) l) {i : Nat} {x : Int × Int} (hx : l[i]? = some x) :
    ∃ b off, A = some ⟨b, off, none⟩ ∧ b < B ∧ w.cell? ⟨b, off + i * 2, none⟩ = some (.int .i64 x.1) ∧ w.cell? ⟨b, off + i * 2 + 1, none⟩ = some (.int .i64 x.2) := by
  obtain ⟨b, off, h1, h2, h3⟩ := Rd.rangeAt h (List.getElem?_eq_some_iff.1 hx).1 (show (ptCells x).length = 2 from rfl) (pts_at l i x hx)
  exact ⟨b, off, h1, h2, h3 0 _ rfl, h3 1 _ rfl⟩
theorem RdPt.below {w w' : World} {B : Nat} {v : Value} {l : List (Int × Int)} (h : RdPt w B v l) (hb : Below B w w') : RdPt w' B v l := Rd.below h hb
theorem RdPt.more {w : World} {B B' : Nat} {v : Value} {l : List (Int × Int)} (h : RdPt w B v l) (hB : B ≤ B') : RdPt w B' v l := Rd.more h hB
theorem RdPt.next {w w' : World} {v : Value} {l : List (Int × Int)} (h : RdPt w w.heap.size v l) (hb : Below w.heap.size w w') : RdPt w' w'.heap.size v l := (h.below hb).more hb.size
theorem bel_drew {B : Nat} {w W : World} (h : Below B w W) : Below B w W.drew := ⟨h.os, h.tape, h.output, h.size, h.block⟩
theorem bel_alloc {w W : World} {ob : Obj} (h : Below w.heap.size w W) : Below w.heap.size w (W.alloc ob) := h.alloc h.size ob

set_option maxHeartbeats 400000 in
theorem inLimit_any (n : Int) (w : World) (h0 : -1000000 ≤ n) (h1 : n ≤ 1000000) : Calls Tryd.prog 89 #[.int .i64 n] w fun e w' => e = .returned (.bool true) ∧ w' = w := by
  go_enter Tryd.func89, Tryd.ntmps89
  go_wp2_with fail
  go_ret
  exact ⟨rfl, rfl⟩

set_option maxHeartbeats 1000000 in
theorem floor_any (a b : Int) (w : World) (h0 : -8000000000000 ≤ a) (h1 : a ≤ 8000000000000) (h2 : 0 < b) (h3 : b ≤ 4000000) : Calls Tryd.prog 91 #[.int .i64 a, .int .i64 b] w fun e w' => e = .returned (.int .i64 (a / b)) ∧ w' = w := by
  obtain ⟨q, hq⟩ : ∃ q, a.tdiv b = q := ⟨_, rfl⟩
  obtain ⟨m, hm⟩ : ∃ m, a.tmod b = m := ⟨_, rfl⟩
  have hqm : b * q + m = a := by rw [← hq, ← hm]; exact Int.mul_tdiv_add_tmod a b
  have hqa : -8000000000000 ≤ q ∧ q ≤ 8000000000000 := by
    have h4 : q.natAbs ≤ a.natAbs := by rw [← hq]; exact Int.natAbs_tdiv_le_natAbs a b
    omega
  have hbm : m < b ∧ -b < m := by
    have h4 := Int.tmod_lt_of_pos a h2
    have h5 := Int.lt_tmod_of_pos a h2
    rw [hm] at h4 h5
    exact ⟨h4, h5⟩
  have hb0 : (b == 0) = false := by rw [beq_eq_false_iff_ne]; omega
  by_cases hneg : m < 0
  · have he : a / b = q - 1 := by
      rw [← hqm, show b * q + m = (m + b) + b * (q - 1) by rw [Int.mul_sub, Int.mul_one]; omega, Int.add_mul_ediv_left _ _ (by omega), Int.ediv_eq_zero_of_lt (by omega) (by omega)]
      omega
    rw [he]
    clear he hqm
    go_enter Tryd.func91, Tryd.ntmps91
    go_wp2_with fail
    go_ret
    exact ⟨rfl, rfl⟩
  · have he : a / b = q := by
      rw [← hqm, show b * q + m = m + b * q by omega, Int.add_mul_ediv_left _ _ (by omega), Int.ediv_eq_zero_of_lt (by omega) (by omega)]
      omega
    rw [he]
    clear he hqm
    go_enter Tryd.func91, Tryd.ntmps91
    go_wp2_with fail
    go_ret
    exact ⟨rfl, rfl⟩

set_option maxRecDepth 100000 in
set_option maxHeartbeats 1000000 in
theorem curveCheck_any (l : List (Int × Int)) (v : Value) (w : World) (hrd : RdPt w w.heap.size v l) (hc : CurveOk l) :
    Calls Tryd.prog 90 #[v] w (IntB 0 w) := by
  obtain ⟨A, c, rfl, hcc, hml⟩ := hrd.form
  obtain ⟨hl0, hl16, hlim, hup⟩ := hc
  have HRD := Lib.hid hrd
  have HLIM := Lib.hid hlim
  have HUP := Lib.hid hup
  have hl0' : ((l.length : Int) == 0) = false := by rw [beq_eq_false_iff_ne]; omega
  clear hrd hlim hup hml
  go_enter Tryd.func90, Tryd.ntmps90
  go_wp2_with fail
  go_loopw [13] (fun i wr => ∃ k : Nat, k ≤ l.length ∧ i = .int .i64 k ∧ Below w.heap.size w wr) (fun i _ => l.length - (intOf i).toNat)
  case atStart => exact ⟨0, by omega, rfl, Below.refl _ _⟩
  case round =>
    obtain ⟨k, hk, rfl, hb⟩ := hrel
    have HB := Lib.hid hb
    have hsz := hb.size
    clear hb
    by_cases hlt : k < l.length
    · have hx : l[k]? = some l[k] := List.getElem?_eq_getElem hlt
      obtain ⟨x, hxe⟩ : ∃ x, l[k] = x := ⟨_, rfl⟩
      rw [hxe] at hx
      obtain ⟨b, off, rfl, hbl, q0, q1⟩ := (HRD.out.below HB.out).at_ hx
      obtain ⟨m1, m2, m3, m4⟩ := HLIM.out x (List.mem_of_getElem? hx)
      have HX := Lib.hid hx
      clear hxe hx
      have HB2 := Lib.hid (bel_alloc (ob := .cells #[.int .i64 x.1, .int .i64 x.2] 160) HB.out)
      go_wp2_with fail
      refine (inLimit_any x.1 _ m1 m2).mono ?_
      rintro e w1 ⟨rfl, rfl⟩
      go_wp2_with fail
      refine (inLimit_any x.2 _ m3 m4).mono ?_
      rintro e w1 ⟨rfl, rfl⟩
      by_cases hk0 : k = 0
      · subst hk0
        have hg : decide ((0 : Int) < ((0 : Nat) : Int)) = false := by decide
        go_wp2_with fail
        go_quiet (fail)
        go_wp2_with fail
        exact ⟨⟨1, by omega, by go_num, below_drewNn HB2.out _⟩, by simp [intOf]; omega⟩
      · have hg : decide ((0 : Int) < (k : Int)) = true := by rw [decide_eq_true_eq]; omega
        have hy : l[k - 1]? = some l[k - 1] := List.getElem?_eq_getElem (by omega)
        obtain ⟨y, hye⟩ : ∃ y, l[k - 1] = y := ⟨_, rfl⟩
        rw [hye] at hy
        obtain ⟨b', off', he', hbl', p0, _⟩ := (HRD.out.below HB.out).at_ hy
        injection he' with he'
        injection he' with e1 e2
        subst e1 e2
        have hyx := HUP.out (k - 1) y x hy (by rw [show k - 1 + 1 = k by omega]; exact HX.out)
        clear hye hy
        obtain ⟨j, rfl⟩ : ∃ j, k = j + 1 := ⟨k - 1, by omega⟩
        rw [Nat.add_sub_cancel] at p0
        have hg2 : decide ((0 : Int) < (j : Int) + 1) = true := by rw [decide_eq_true_eq]; omega
        have hj : IntKind.i64.wrap (j : Int) = (j : Int) := IntWalk.i64_in _ (by omega)
        have hjl : j < l.length := by omega
        have hbw : b < wr.heap.size := by omega
        have hsn : b < wr.heap.size + 1 := by omega
        go_wp2_with fail
        go_quiet (fail)
        go_wp2_with fail
        exact ⟨⟨j + 1 + 1, by omega, by go_num, below_drewNn HB2.out _⟩, by simp [intOf]; omega⟩
    · go_wp2_with fail
      go_ret
      exact ⟨rfl, HB.out⟩

set_option maxRecDepth 100000 in
set_option maxHeartbeats 1000000 in
theorem checkAxis_any (l : List Int) (v : Value) (w : World) (hrd : RdI w w.heap.size v l) (hlim : ∀ n ∈ l, -1000000 ≤ n ∧ n ≤ 1000000) (hup : ∀ (i : Nat) (p q : Int), l[i]? = some p → l[i + 1]? = some q → p < q) :
    Calls Tryd.prog 88 #[v] w (IntB 0 w) := by
  obtain ⟨A, c, rfl, hcc, hml⟩ := hrd.form
  unfold maxLen at hml
  have HRD := Lib.hid hrd
  have HLIM := Lib.hid hlim
  have HUP := Lib.hid hup
  clear hrd hlim hup
  go_enter Tryd.func88, Tryd.ntmps88
  go_wp2_with fail
  go_loopw [7] (fun i wr => ∃ k : Nat, k ≤ l.length ∧ i = .int .i64 k ∧ Below w.heap.size w wr) (fun i _ => l.length - (intOf i).toNat)
  case atStart => exact ⟨0, by omega, rfl, Below.refl _ _⟩
  case round =>
    obtain ⟨k, hk, rfl, hb⟩ := hrel
    have HB := Lib.hid hb
    have hsz := hb.size
    clear hb
    by_cases hlt : k < l.length
    · have hx : l[k]? = some l[k] := List.getElem?_eq_getElem hlt
      obtain ⟨x, hxe⟩ : ∃ x, l[k] = x := ⟨_, rfl⟩
      rw [hxe] at hx
      obtain ⟨b, off, rfl, hbl, q0⟩ := (HRD.out.below HB.out).at_ hx
      obtain ⟨m1, m2⟩ := HLIM.out x (List.mem_of_getElem? hx)
      have HX := Lib.hid hx
      clear hxe hx
      go_wp2_with fail
      refine (inLimit_any x _ m1 m2).mono ?_
      rintro e w1 ⟨rfl, rfl⟩
      by_cases hk0 : k = 0
      · subst hk0
        have hg : decide ((0 : Int) < ((0 : Nat) : Int)) = false := by decide
        go_wp2_with fail
        exact ⟨⟨1, by omega, by go_num, HB.out⟩, by simp [intOf]; omega⟩
      · have hg : decide ((0 : Int) < (k : Int)) = true := by rw [decide_eq_true_eq]; omega
        have hy : l[k - 1]? = some l[k - 1] := List.getElem?_eq_getElem (by omega)
        obtain ⟨y, hye⟩ : ∃ y, l[k - 1] = y := ⟨_, rfl⟩
        rw [hye] at hy
        obtain ⟨b', off', he', hbl', p0⟩ := (HRD.out.below HB.out).at_ hy
        injection he' with he'
        injection he' with e1 e2
        subst e1 e2
        have hyx := HUP.out (k - 1) y x hy (by rw [show k - 1 + 1 = k by omega]; exact HX.out)
        clear hye hy
        obtain ⟨j, rfl⟩ : ∃ j, k = j + 1 := ⟨k - 1, by omega⟩
        rw [Nat.add_sub_cancel] at p0
        have hg2 : decide ((0 : Int) < (j : Int) + 1) = true := by rw [decide_eq_true_eq]; omega
        have hj : IntKind.i64.wrap (j : Int) = (j : Int) := IntWalk.i64_in _ (by omega)
        have hjl : j < l.length := by omega
        go_wp2_with fail
        exact ⟨⟨j + 1 + 1, by omega, by go_num, HB.out⟩, by simp [intOf]; omega⟩
    · go_wp2_with fail
      go_ret
      exact ⟨rfl, HB.out⟩

theorem mul_in {a b : Int} (h0 : -2000000 ≤ a) (h1 : a ≤ 2000000) (h2 : -2000000 ≤ b) (h3 : b ≤ 2000000) : -4000000000000 ≤ a * b ∧ a * b ≤ 4000000000000 := by
  have h := Int.natAbs_mul a b
  have h4 : a.natAbs * b.natAbs ≤ 2000000 * 2000000 := Nat.mul_le_mul (by omega) (by omega)
  omega
/-- What a curve is at x, from its point k on. -/
theorem atGo_at {x : Int} {l : List (Int × Int)} {k : Nat} {p q : Int × Int} (_hp : l[k]? = some p) (hq : l[k + 1]? = some q) : atGo x p (l.drop (k + 1)) = if x ≤ q.1 then p.2 + (q.2 - p.2) * (x - p.1) / (q.1 - p.1) else atGo x q (l.drop (k + 1 + 1)) := by
  obtain ⟨h1, h2⟩ := List.getElem?_eq_some_iff.1 hq
  rw [List.drop_eq_getElem_cons h1, h2, atGo]
set_option maxRecDepth 100000 in
set_option maxHeartbeats 4000000 in
theorem at_any (l : List (Int × Int)) (v : Value) (x : Int) (w : World) (hrd : RdPt w w.heap.size v l) (hc : CurveOk l) (hx0 : -1000000 ≤ x) (hx1 : x ≤ 1000000) :
    Calls Tryd.prog 85 #[v, .int .i64 x] w (IntB (atP l x) w) := by
  obtain ⟨A, c, rfl, hcc, hml⟩ := hrd.form
  obtain ⟨hl0, hl16, hlim, hup⟩ := id hc
  have HRD := Lib.hid hrd
  have HLIM := Lib.hid hlim
  have HUP := Lib.hid hup
  have HC := Lib.hid hc
  clear hrd hlim hup hml hc
  obtain ⟨r, hr⟩ : ∃ r, atP l x = r := ⟨_, rfl⟩
  rw [hr]
  have h0 : l[0]? = some l[0] := List.getElem?_eq_getElem hl0
  obtain ⟨p, hp⟩ : ∃ p, l[0] = p := ⟨_, rfl⟩
  rw [hp] at h0
  have hat : atP l x = if x ≤ p.1 then p.2 else atGo x p (l.drop 1) := by
    cases l with
    | nil => cases h0
    | cons a t => rw [List.getElem?_cons_zero] at h0; injection h0 with h0; subst h0; rfl
  rw [hr] at hat
  have HAT := Lib.hid hat
  have H0 := Lib.hid h0
  clear hp hr hat h0
  go_enter Tryd.func85, Tryd.ntmps85
  go_wp2_with fail
  refine (curveCheck_any l _ _ HRD.out HC.out).mono ?_
  rintro e w1 ⟨he, hb1⟩
  subst he
  have HB1 := Lib.hid hb1
  have hs1 := hb1.size
  obtain ⟨b, off, rfl, hbl, q0, q1⟩ := (HRD.out.below hb1).at_ H0.out
  rw [Nat.zero_mul, Nat.add_zero] at q0 q1
  clear hb1
  by_cases hle : x ≤ p.1
  · have hr : r = p.2 := by have := HAT.out; rwa [if_pos hle] at this
    subst hr
    go_wp2_with fail
    go_ret
    exact ⟨rfl, HB1.out⟩
  · have HA := Lib.hid (show r = atGo x p (l.drop 1) by have := HAT.out; rwa [if_neg hle] at this)
    go_wp2_with fail
    go_loopw [5] (fun i wr => ∃ k : Nat, k + 1 ≤ l.length ∧ i = .int .i64 ((k : Int) + 1) ∧ (∃ y, l[k]? = some y ∧ y.1 < x ∧ r = atGo x y (l.drop (k + 1))) ∧ Below w.heap.size w wr) (fun i _ => l.length - (intOf i).toNat)
    case atStart => exact ⟨0, by omega, rfl, ⟨p, H0.out, by omega, HA.out⟩, HB1.out⟩
    case round =>
      obtain ⟨k, hk, rfl, ⟨y, hy, hyx, hry⟩, hb⟩ := hrel
      have HB := Lib.hid hb
      have hsz := hb.size
      obtain ⟨b', off', he', hbl', y0, y1⟩ := (HRD.out.below hb).at_ hy
      injection he' with he'
      injection he' with e1 e2
      subst e1 e2
      clear hb q0 q1
      by_cases hlt : k + 1 < l.length
      · have hz : l[k + 1]? = some l[k + 1] := List.getElem?_eq_getElem hlt
        obtain ⟨z, hze⟩ : ∃ z, l[k + 1] = z := ⟨_, rfl⟩
        rw [hze] at hz
        obtain ⟨b', off', he', hbl', z0, z1⟩ := (HRD.out.below HB.out).at_ hz
        injection he' with he'
        injection he' with e1 e2
        subst e1 e2
        rw [atGo_at hy hz] at hry
        have hyz := HUP.out k y z hy hz
        obtain ⟨m1, m2, m3, m4⟩ := HLIM.out y (List.mem_of_getElem? hy)
        obtain ⟨m5, m6, m7, m8⟩ := HLIM.out z (List.mem_of_getElem? hz)
        have HZ := Lib.hid hz
        clear hze hz
        have HY := Lib.hid hy
        clear hy
        by_cases hxz : x ≤ z.1
        · rw [if_pos hxz] at hry
          have HR := Lib.hid hry
          clear hry
          have hP := mul_in (a := z.2 - y.2) (b := x - y.1) (by omega) (by omega) (by omega) (by omega)
          have hF := floor_in (d := z.2 - y.2) (n := x - y.1) (m := z.1 - y.1) (by omega) (by omega) (by omega) rfl
          have hbw : b < wr.heap.size := by omega
          have HFL := Lib.hid (fun W => floor_any ((z.2 - y.2) * (x - y.1)) (z.1 - y.1) W (by omega) (by omega) (by omega) (by omega))
          have x1 : IntKind.i64.wrap (z.2 - y.2) = z.2 - y.2 := IntWalk.i64_in _ (by omega)
          have x2 : IntKind.i64.wrap (x - y.1) = x - y.1 := IntWalk.i64_in _ (by omega)
          have x3 : IntKind.i64.wrap (z.1 - y.1) = z.1 - y.1 := IntWalk.i64_in _ (by omega)
          have x4 : IntKind.i64.wrap ((z.2 - y.2) * (x - y.1)) = (z.2 - y.2) * (x - y.1) := IntWalk.i64_in _ (by omega)
          have x5 : IntKind.i64.wrap (y.2 + (z.2 - y.2) * (x - y.1) / (z.1 - y.1)) = y.2 + (z.2 - y.2) * (x - y.1) / (z.1 - y.1) := IntWalk.i64_in _ (by omega)
          go_wp2_with fail
          go_region
          all_goals
            go_wp2_with fail
            go_quiet ((go_at_call 91; exact (HFL.out _).mono fun _ _ ⟨he, hw⟩ => ⟨he, _, hw⟩))
            go_wp2_with fail
            go_ret
            refine ⟨ret_int ?_, ?_⟩
            · exact HR.out.symm
            · refine below_drewNn ?_ _
              exact bel_drew (bel_alloc (bel_alloc HB.out))
        · rw [if_neg hxz] at hry
          have HN := Lib.hid (show ∃ y', l[k + 1]? = some y' ∧ y'.1 < x ∧ r = atGo x y' (l.drop (k + 1 + 1)) from ⟨z, HZ.out, by omega, hry⟩)
          clear hry
          go_wp2_with fail
          exact ⟨⟨k + 1, by omega, by go_num, HN.out, HB.out⟩, by simp [intOf]; omega⟩
      · have hr : r = y.2 := by
          rw [List.drop_eq_nil_of_le (by omega)] at hry
          exact hry
        subst hr
        clear hry
        have hkl : IntKind.i64.wrap ((l.length : Int) - 1) = (k : Int) := by rw [show (l.length : Int) - 1 = (k : Int) by omega]; exact IntWalk.i64_in _ (by omega)
        have hkk : k < l.length := by omega
        clear hy
        go_wp2_with fail
        go_ret
        exact ⟨rfl, HB.out⟩
end Go.Proofs.YthineckpociomaaDoor
