/-
  Products: their memory; the contracts of product.Green and of the reference's IsName, sized, Green, checkLengths, Check.
-/
import Derived.Test.YtbmcfodhjibooaaDoorBase
import Derived.Test.YtbmcfodhjibooaaDoorBig
import Derived.Test.YtbmcfodhjibooaaDoorPrP
import Derived.Test.YtbmcfodhjibooaaDoorPaA

namespace Go.Proofs.YtbmcfodhjibooaaDoor
open Go.RowKit Saw Go.Sort
def ints (l : List Int) : List Value := l.map fun n => .int .i64 n
/-- The slice value v reads as the numbers l; it lies below block B. -/
def RdI (w : World) (B : Nat) (v : Value) (l : List Int) : Prop := Rd w B 1 v l.length (ints l)
theorem RdI.form {w : World} {B : Nat} {v : Value} {l : List Int} (h : RdI w B v l) : ∃ A c, v = .slice A l.length c ∧ l.length ≤ c ∧ l.length ≤ maxLen := by
  obtain ⟨_, h2, A, c, rfl, hc, _⟩ := h
  exact ⟨A, c, rfl, hc, h2⟩
theorem RdI.at_ {w : World} {B : Nat} {A : Option Addr} {n c : Nat} {l : List Int} (h : RdI w B (.slice A n c) l) {i : Nat} {x : Int} (hx : l[i]? = some x) :
    ∃ b off, A = some ⟨b, off, none⟩ ∧ b < B ∧ w.cell? ⟨b, off + i, none⟩ = some (.int .i64 x) := by
  obtain ⟨_, _, A', c', he, _, h3⟩ := h
  injection he with h1 h2 h4
  subst h1
  have hi : i < l.length := (List.getElem?_eq_some_iff.1 hx).1
  obtain ⟨b, off, rfl, hb, hcell⟩ := h3 (by omega)
  exact ⟨b, off, rfl, hb, hcell i _ (by rw [ints, List.getElem?_map, hx]; rfl)⟩

def prCells (x : Pr) (lv pv : Value) : List Value := [.string (str x.name), .int .i64 x.thick, .int .i64 x.width, .int .i64 x.allow, .int .i64 x.wane, lv, pv]
def prsCells (m : List (Pr × Value × Value)) : List Value := m.flatMap fun y => prCells y.1 y.2.1 y.2.2
/-- The slice value v reads as the products l; it, and their lengths and prices, lie below block B. -/
def RdPr (w : World) (B : Nat) (v : Value) (l : List Pr) : Prop := ∃ m : List (Pr × Value × Value), m.map (·.1) = l ∧ Rd w B 7 v m.length (prsCells m) ∧ ∀ y ∈ m, RdI w B y.2.1 y.1.lens ∧ RdI w B y.2.2 y.1.prices
theorem prs_at : ∀ (m : List (Pr × Value × Value)) (i : Nat) (y : Pr × Value × Value), m[i]? = some y → ∀ j, j < 7 → (prsCells m)[i * 7 + j]? = (prCells y.1 y.2.1 y.2.2)[j]?
  | [], i, y, h, _, _ => by simp at h
  | z :: r, 0, y, h, j, hj => by
    simp only [List.getElem?_cons_zero, Option.some.injEq] at h
    subst h
    rw [prsCells, List.flatMap_cons, List.getElem?_append_left (by simp [prCells]; omega), Nat.zero_mul, Nat.zero_add]
  | z :: r, i + 1, y, h, j, hj => by
    simp only [List.getElem?_cons_succ] at h
    have e : (prCells z.1 z.2.1 z.2.2).length = 7 := rfl
    rw [prsCells, List.flatMap_cons, List.getElem?_append_right (by rw [e]; omega), e, ← prs_at r i y h j hj, prsCells]
    congr 1
    omega
theorem prsCells_length (m : List (Pr × Value × Value)) : (prsCells m).length = m.length * 7 := by
  induction m with
  | nil => rfl
  | cons y r ih => rw [prsCells, List.flatMap_cons, List.length_append, ← prsCells, ih]; simp [prCells]; omega
section
variable {w w' : World} {B : Nat} {v : Value} {l : List Pr}
theorem RdI.below {ns : List Int} (h : RdI w B v ns) (hb : Below B w w') : RdI w' B v ns := Rd.below h hb
theorem RdPr.below (h : RdPr w B v l) (hb : Below B w w') : RdPr w' B v l := by
  obtain ⟨m, h1, h2, h3⟩ := h
  exact ⟨m, h1, h2.below hb, fun y hy => ⟨(h3 y hy).1.below hb, (h3 y hy).2.below hb⟩⟩
theorem RdI.more {B' : Nat} {ns : List Int} (h : RdI w B v ns) (hB : B ≤ B') : RdI w B' v ns := Rd.more h hB
theorem RdPr.more {B' : Nat} (h : RdPr w B v l) (hB : B ≤ B') : RdPr w B' v l := by
  obtain ⟨m, h1, h2, h3⟩ := h
  exact ⟨m, h1, h2.more hB, fun y hy => ⟨(h3 y hy).1.more hB, (h3 y hy).2.more hB⟩⟩
theorem RdPr.next (h : RdPr w w.heap.size v l) (hb : Below w.heap.size w w') : RdPr w' w'.heap.size v l := (h.below hb).more hb.size
theorem RdI.next {ns : List Int} (h : RdI w w.heap.size v ns) (hb : Below w.heap.size w w') : RdI w' w'.heap.size v ns := (h.below hb).more hb.size
theorem RdPr.form (h : RdPr w B v l) : ∃ A c, v = .slice A l.length c ∧ l.length ≤ c ∧ l.length ≤ maxLen := by
  obtain ⟨m, rfl, ⟨_, h2, A, c, rfl, hc, _⟩, _⟩ := h
  rw [List.length_map]
  exact ⟨A, c, rfl, hc, h2⟩
end
theorem RdPr.at_ {w : World} {B : Nat} {A : Option Addr} {n c : Nat} {l : List Pr} (h : RdPr w B (.slice A n c) l) {i : Nat} {x : Pr} (hx : l[i]? = some x) :
    ∃ b off A1 c1 A2 c2, A = some ⟨b, off, none⟩ ∧ b < B ∧ x.lens.length ≤ maxLen ∧ x.prices.length ≤ maxLen ∧ RdI w B (.slice A1 x.lens.length c1) x.lens ∧ RdI w B (.slice A2 x.prices.length c2) x.prices ∧
      w.cell? ⟨b, off + i * 7, none⟩ = some (.string (str x.name)) ∧ w.cell? ⟨b, off + i * 7 + 1, none⟩ = some (.int .i64 x.thick) ∧ w.cell? ⟨b, off + i * 7 + 2, none⟩ = some (.int .i64 x.width) ∧ w.cell? ⟨b, off + i * 7 + 3, none⟩ = some (.int .i64 x.allow) ∧ w.cell? ⟨b, off + i * 7 + 4, none⟩ = some (.int .i64 x.wane) ∧ w.cell? ⟨b, off + i * 7 + 5, none⟩ = some (.slice A1 x.lens.length c1) ∧ w.cell? ⟨b, off + i * 7 + 6, none⟩ = some (.slice A2 x.prices.length c2) := by
  obtain ⟨m, rfl, ⟨_, _, A', c', he, _, h3⟩, h4⟩ := h
  injection he with h1 h2 h5
  subst h1
  rw [List.getElem?_map] at hx
  cases hy : m[i]? with
  | none => rw [hy] at hx; cases hx
  | some y =>
    rw [hy] at hx
    injection hx with hx
    subst hx
    have hi : i < m.length := (List.getElem?_eq_some_iff.1 hy).1
    obtain ⟨b, off, rfl, hb, hcell⟩ := h3 (by omega)
    obtain ⟨r1, r2⟩ := h4 y (List.mem_of_getElem? hy)
    obtain ⟨A1, c1, e1, _, m1⟩ := r1.form
    obtain ⟨A2, c2, e2, _, m2⟩ := r2.form
    have hc : ∀ j, j < 7 → ∀ u, (prCells y.1 y.2.1 y.2.2)[j]? = some u → w.cell? ⟨b, off + (i * 7 + j), none⟩ = some u := fun j hj u hu => hcell _ _ ((prs_at m i y hy j hj).trans hu)
    rw [e1] at r1
    rw [e2] at r2
    rw [e1, e2] at hc
    exact ⟨b, off, A1, c1, A2, c2, rfl, hb, m1, m2, r1, r2, hc 0 (by omega) _ rfl, hc 1 (by omega) _ rfl, hc 2 (by omega) _ rfl, hc 3 (by omega) _ rfl, hc 4 (by omega) _ rfl, hc 5 (by omega) _ rfl, hc 6 (by omega) _ rfl⟩

theorem RdPr.take {w : World} {B b off n c : Nat} {l : List Pr} (h : RdPr w B (.slice (some ⟨b, off, none⟩) n c) l) (k : Nat) (hk : k ≤ l.length) :
    RdPr w B (.slice (some ⟨b, off, none⟩) k c) (l.take k) := by
  obtain ⟨m, rfl, ⟨h1, h2, A', c', he, hc, h3⟩, h4⟩ := h
  injection he with e1 e2 e3
  subst e1 e2 e3
  rw [List.length_map] at hk
  have hl : (m.take k).length = k := by rw [List.length_take]; omega
  refine ⟨m.take k, by rw [List.map_take], ⟨prsCells_length _, by omega, _, c, by rw [hl], by omega, fun hn => ?_⟩, fun y hy => h4 y (List.mem_of_mem_take hy)⟩
  obtain ⟨b', off', hA, hb, hcell⟩ := h3 (by omega)
  refine ⟨b', off', hA, hb, fun j u hu => hcell j u ?_⟩
  rw [← List.take_append_drop k m, prsCells, List.flatMap_append, ← prsCells]
  rw [List.getElem?_append_left (List.getElem?_eq_some_iff.1 hu).1]
  exact hu

theorem str_eqb (a b : List UInt8) : ((str a).toList == (str b).toList) = (a == b) := by rw [toList_bts, toList_bts, bts_str, bts_str]

set_option maxHeartbeats 400000 in
theorem isSize_any (n : Int) (w : World) : Calls Tryd.prog 78 #[.int .i64 n] w fun e w' => e = .returned (.bool (sizeOkP n)) ∧ w = w' := by
  go_enter Tryd.func78, Tryd.ntmps78
  go_wp2
  all_goals
    go_ret
    refine ⟨ret_bool ?_, rfl⟩
    rw [Bool.eq_iff_iff]; simp [sizeOkP]; omega

theorem mul_bd {a b x y : Int} (h0 : 0 ≤ a) (h1 : a ≤ x) (h2 : 0 ≤ b) (h3 : b ≤ y) : 0 ≤ a * b ∧ a * b ≤ x * y :=
  ⟨Int.mul_nonneg h0 h2, Int.mul_le_mul h1 h3 h2 (Int.le_trans h0 h1)⟩

set_option maxHeartbeats 400000 in
theorem grow_any (n a : Int) (w : World) (h1 : sizeOkP n = true) (h2 : 0 ≤ a) (h3 : a ≤ 200) : Calls Tryd.prog 79 #[.int .i64 n, .int .i64 a] w fun e w' => e = .returned (.int .i64 (growP n a)) ∧ w = w' := by
  simp only [sizeOkP, Bool.and_eq_true, decide_eq_true_eq] at h1
  have hm := mul_bd (a := n) (b := 1000 + a) (x := 600) (y := 1200) (by omega) (by omega) (by omega) (by omega)
  obtain ⟨p, hp⟩ : ∃ p, n * (1000 + a) = p := ⟨_, rfl⟩
  have hg : growP n a = (p + 999) / 1000 := by rw [growP, hp]
  rw [hp] at hm
  have ht : (p + 999).tdiv 1000 = (p + 999) / 1000 := Int.tdiv_eq_ediv_of_nonneg (by omega)
  rw [hg]
  clear hg
  go_enter Tryd.func79, Tryd.ntmps79
  go_wp2
  go_ret
  exact ⟨rfl, rfl⟩

set_option maxRecDepth 100000 in
set_option maxHeartbeats 400000 in
theorem green_any (x : Pr) (A1 A2 : Option Addr) (n1 c1 n2 c2 : Nat) (w : World) :
    Calls Tryd.prog 43 #[.agg #[.string (str x.name), .int .i64 x.thick, .int .i64 x.width, .int .i64 x.allow, .int .i64 x.wane, .slice A1 n1 c1, .slice A2 n2 c2]] w fun e w' => e = .returned (.tuple #[.int .i64 (greenP x).1, .int .i64 (greenP x).2]) ∧ Below w.heap.size w w' := by
  obtain ⟨r, hr⟩ : ∃ r, greenP x = r := ⟨_, rfl⟩
  rw [hr]
  unfold greenP at hr
  cases h1 : sizeOkP x.thick with
  | false =>
    have hrz : r = (0, 0) := by rw [← hr, h1]; rfl
    subst hrz
    clear hr
    go_enter Tryd.func43, Tryd.ntmps43
    go_wp2_with (go_at_call 78; refine (isSize_any _ _).mono ?_; rintro e w' ⟨he, rfl⟩; rw [h1] at he; subst he)
    go_ret2
    exact ⟨rfl, (Below.refl _ _).alloc (Nat.le_refl _) _⟩
  | true =>
    cases h2 : sizeOkP x.width with
    | false =>
      have hrz : r = (0, 0) := by rw [← hr, h1, h2]; rfl
      subst hrz
      clear hr
      have HS := Lib.hid (And.intro h1 h2)
      clear h1 h2
      go_enter Tryd.func43, Tryd.ntmps43
      go_wp2_with (go_at_call 78; refine (isSize_any _ _).mono ?_; rintro e w' ⟨he, rfl⟩; first | (rw [HS.out.1] at he; subst he) | (rw [HS.out.2] at he; subst he))
      go_ret2
      exact ⟨rfl, (Below.refl _ _).alloc (Nat.le_refl _) _⟩
    | true =>
      rw [h1, h2] at hr
      simp only [Bool.true_and, Bool.and_eq_true, decide_eq_true_eq] at hr
      have HS := Lib.hid (And.intro h1 h2)
      clear h1 h2
      by_cases h3 : 0 ≤ x.allow ∧ x.allow ≤ 200
      · rw [if_pos h3] at hr
        obtain ⟨h3, h4⟩ := h3
        subst hr
        go_enter Tryd.func43, Tryd.ntmps43
        go_wp2_with (go_at_call 78; refine (isSize_any _ _).mono ?_; rintro e w' ⟨he, rfl⟩; first | (rw [HS.out.1] at he; subst he) | (rw [HS.out.2] at he; subst he))
        go_quiet ((go_at_call 79; exact Calls.quiet_of_same ((grow_any _ _ _ (by first | exact HS.out.1 | exact HS.out.2) h3 h4).mono fun _ _ ⟨a, b⟩ => ⟨a, b.symm⟩)))
        go_wp2_with fail
        go_ret2
        exact ⟨rfl, below_drewNn ((Below.refl _ _).alloc (Nat.le_refl _) _) _⟩
      · rw [if_neg h3] at hr
        subst hr
        by_cases h4 : x.allow < 0
        · clear h3
          go_enter Tryd.func43, Tryd.ntmps43
          go_wp2_with (go_at_call 78; refine (isSize_any _ _).mono ?_; rintro e w' ⟨he, rfl⟩; first | (rw [HS.out.1] at he; subst he) | (rw [HS.out.2] at he; subst he))
          go_ret2
          exact ⟨rfl, (Below.refl _ _).alloc (Nat.le_refl _) _⟩
        · have h5 : 200 < x.allow := by omega
          clear h3
          go_enter Tryd.func43, Tryd.ntmps43
          go_wp2_with (go_at_call 78; refine (isSize_any _ _).mono ?_; rintro e w' ⟨he, rfl⟩; first | (rw [HS.out.1] at he; subst he) | (rw [HS.out.2] at he; subst he))
          go_ret2
          exact ⟨rfl, (Below.refl _ _).alloc (Nat.le_refl _) _⟩
theorem name_head {s : ByteArray} (h : 0 < s.size) : isNameP (bts s) = (decide (s.size ≤ 16) && smallI (s[0].toNat) && ((bts s).drop 1).all fun d => nameI d.toNat) := by
  have h1 := drop_cons s 0 h
  rw [List.drop_zero] at h1
  conv => lhs; rw [h1]
  rw [isNameP, ← h1, ← size_bts]
end Go.Proofs.YtbmcfodhjibooaaDoor
namespace Saw
/-- The reference's condition on a name's byte at an index. -/
def nameAt (i : Nat) (c : Int) : Bool := smallI c || (!(i == 0) && (c == 95 || digI c))
def namesFrom : Nat → List UInt8 → Bool
  | _, [] => true
  | i, c :: r => nameAt i c.toNat && namesFrom (i + 1) r
theorem namesFrom_succ : ∀ (l : List UInt8) (i : Nat), namesFrom (i + 1) l = l.all fun d => nameI d.toNat
  | [], _ => rfl
  | c :: r, i => by
    rw [namesFrom, namesFrom_succ r (i + 1), List.all_cons]
    congr 1
    unfold nameAt nameI
    rw [show ((i + 1) == 0) = false from rfl]
    generalize smallI c.toNat = a
    generalize digI c.toNat = b
    generalize ((c.toNat : Int) == 95) = d
    cases a <;> cases b <;> cases d <;> rfl
theorem isNameP_ref (l : List UInt8) (h1 : 1 ≤ l.length) (h2 : l.length ≤ 16) : isNameP l = namesFrom 0 l := by
  cases l with
  | nil => simp at h1
  | cons c r =>
    rw [isNameP, namesFrom, namesFrom_succ, decide_eq_true h2, Bool.true_and]
    congr 1
    simp [nameAt]
end Saw
namespace Go.Proofs.YtbmcfodhjibooaaDoor
open Go.RowKit Saw

set_option maxHeartbeats 400000 in
theorem ref02digit_any (c : Int) (w : World) :
    Calls Tryd.prog 75 #[.int .u8 c] w fun e w' => e = .returned (.bool (digI c)) ∧ w = w' := by
  go_enter Tryd.func75, Tryd.ntmps75
  go_wp2
  all_goals
    go_ret
    refine ⟨ret_bool ?_, rfl⟩
    rw [Bool.eq_iff_iff]; simp [digI]; omega

theorem names_step {s : ByteArray} {j : Nat} {r : Bool} (hlt : j < s.size) (h : namesFrom j ((bts s).drop j) = r) : (nameAt j s[j].toNat && namesFrom (j + 1) ((bts s).drop (j + 1))) = r := by
  rw [drop_cons s j hlt, namesFrom] at h
  exact h

set_option maxHeartbeats 1000000 in
theorem refIsName_any (s : ByteArray) (w : World) (hs : s.size ≤ 9223372036854775807) :
    Calls Tryd.prog 37 #[.string s] w fun e w' => e = .returned (.bool (isNameP (bts s))) ∧ w = w' := by
  obtain ⟨r, hr⟩ : ∃ r, isNameP (bts s) = r := ⟨_, rfl⟩
  rw [hr]
  by_cases h1 : s.size < 1
  · have hrf : r = false := by
      rw [← hr]
      have : bts s = [] := List.eq_nil_of_length_eq_zero (by rw [← size_bts]; omega)
      rw [this]; rfl
    subst hrf
    clear hr
    go_enter Tryd.func37, Tryd.ntmps37
    go_wp2_with fail
    go_ret
    exact ⟨rfl, rfl⟩
  · by_cases h16 : 16 < s.size
    · have hrf : r = false := by
        rw [← hr, name_head (by omega), decide_eq_false (by omega)]; rfl
      subst hrf
      clear hr
      go_enter Tryd.func37, Tryd.ntmps37
      go_wp2_with fail
      go_ret
      exact ⟨rfl, rfl⟩
    · rw [isNameP_ref _ (by rw [← size_bts]; omega) (by rw [← size_bts]; omega)] at hr
      have HR := Lib.hid hr
      clear hr
      go_enter Tryd.func37, Tryd.ntmps37
      go_wp2_with fail
      go_loop [3] (fun i => ∃ j : Nat, j ≤ s.size ∧ i = .int .i64 j ∧ namesFrom j ((bts s).drop j) = r) (fun i => s.size - (intOf i).toNat)
      case atStart => exact ⟨0, by omega, rfl, by rw [List.drop_zero]; exact HR.out⟩
      case round =>
        obtain ⟨j, hj, rfl, hrj⟩ := hrel
        by_cases hlt : j < s.size
        · have hb : s[j].toNat < 256 := s[j].toNat_lt
          have HST := Lib.hid (names_step hlt hrj)
          clear hrj
          cases hna : nameAt j s[j].toNat with
          | true =>
            have HN := Lib.hid (show namesFrom (j + 1) ((bts s).drop (j + 1)) = r by have h9 := HST.out; rw [hna, Bool.true_and] at h9; exact h9)
            have hcase : smallI s[j].toNat = true ∨ smallI s[j].toNat = false ∧ (j ≠ 0 ∧ ((s[j].toNat : Int) = 95 ∨ (s[j].toNat : Int) ≠ 95 ∧ digI s[j].toNat = true)) := by
              unfold nameAt at hna
              cases hsm : smallI s[j].toNat with
              | true => exact .inl rfl
              | false =>
                rw [hsm, Bool.false_or, Bool.and_eq_true, Bool.or_eq_true] at hna
                refine .inr ⟨rfl, by simpa using hna.1, ?_⟩
                by_cases h95 : (s[j].toNat : Int) = 95
                · exact .inl h95
                · exact .inr ⟨h95, by rcases hna.2 with h | h; exact absurd (by simpa using h) h95; exact h⟩
            clear hna
            rcases hcase with hsm | ⟨hsm, hj0, h95 | ⟨h95, hdg⟩⟩
            · have hsm' : 97 ≤ s[j].toNat ∧ s[j].toNat ≤ 122 := by simp [smallI] at hsm; omega
              obtain ⟨q1, q2⟩ := hsm'
              clear hsm
              go_wp2_with fail
              exact ⟨⟨j + 1, by omega, by go_num, HN.out⟩, by simp [intOf]; omega⟩
            · have hjb : ((j : Int) == 0) = false := by rw [beq_eq_false_iff_ne]; omega
              have hnb : ((s[j].toNat : Int) != 95) = false := by rw [bne_eq_false_iff_eq]; exact h95
              have hsm' : ¬ (97 ≤ s[j].toNat ∧ s[j].toNat ≤ 122) := by simp [smallI] at hsm; omega
              clear hsm
              go_wp2_with fail
              all_goals exact ⟨⟨j + 1, by omega, by go_num, HN.out⟩, by simp [intOf]; omega⟩
            · have hjb : ((j : Int) == 0) = false := by rw [beq_eq_false_iff_ne]; omega
              have hnb : ((s[j].toNat : Int) != 95) = true := by rw [bne_iff_ne]; exact h95
              have hsm' : ¬ (97 ≤ s[j].toNat ∧ s[j].toNat ≤ 122) := by simp [smallI] at hsm; omega
              have HDG := Lib.hid hdg
              clear hsm hdg
              go_wp2_with (go_at_call 75; refine (ref02digit_any _ _).mono ?_; rintro e w' ⟨he, rfl⟩; rw [HDG.out] at he; subst he)
              all_goals exact ⟨⟨j + 1, by omega, by go_num, HN.out⟩, by simp [intOf]; omega⟩
          | false =>
            have hrf : r = false := by rw [← HST.out, hna]; rfl
            subst hrf
            have hcase : smallI s[j].toNat = false ∧ (j = 0 ∨ j ≠ 0 ∧ (s[j].toNat : Int) ≠ 95 ∧ digI s[j].toNat = false) := by
              unfold nameAt at hna
              rw [Bool.or_eq_false_iff, Bool.and_eq_false_iff, Bool.or_eq_false_iff] at hna
              refine ⟨hna.1, ?_⟩
              by_cases hj0 : j = 0
              · exact .inl hj0
              · rcases hna.2 with h | h
                · exact absurd (by simpa using h) hj0
                · exact .inr ⟨hj0, by simpa using h.1, h.2⟩
            clear hna HST
            obtain ⟨hsm, hcase⟩ := hcase
            have hsm' : s[j].toNat < 97 ∨ 122 < s[j].toNat := by simp [smallI] at hsm; omega
            clear hsm
            rcases hsm' with q | q
            all_goals
             rcases hcase with hj0 | ⟨hj0, h95, hdg⟩
             · have hjb : ((j : Int) == 0) = true := by rw [beq_iff_eq]; omega
               clear hj0
               go_wp2_with fail
               all_goals first
                 | (go_ret; exact ⟨rfl, rfl⟩)
                 | (exfalso; rename_i hz; rw [Bool.not_eq_false', decide_eq_true_iff] at hz; omega)
             · have hjb : ((j : Int) == 0) = false := by rw [beq_eq_false_iff_ne]; omega
               have hnb : ((s[j].toNat : Int) != 95) = true := by rw [bne_iff_ne]; exact h95
               have HDG := Lib.hid hdg
               clear hdg
               go_wp2_with (go_at_call 75; refine (ref02digit_any _ _).mono ?_; rintro e w' ⟨he, rfl⟩; rw [HDG.out] at he; subst he)
               all_goals first
                 | (go_ret; exact ⟨rfl, rfl⟩)
                 | (exfalso; rename_i hz; rw [Bool.not_eq_false', decide_eq_true_iff] at hz; omega)
        · have hrt : r = true := by rw [← hrj, drop_nil s j hlt]; rfl
          subst hrt
          clear hrj HR
          go_wp2_with fail
          go_ret
          exact ⟨rfl, rfl⟩

end Go.Proofs.YtbmcfodhjibooaaDoor
namespace Go.Proofs.YtbmcfodhjibooaaDoor
open Go.RowKit Saw Go.Sort
theorem findPr_step {m : List Pr} {j : Nat} {x : Pr} {nm : List UInt8} {q : Bool} (hx : m[j]? = some x) (h : (findPr (m.drop j) nm).isSome = q) :
    ((x.name == nm) = true → q = true) ∧ ((x.name == nm) = false → (findPr (m.drop (j + 1)) nm).isSome = q) := by
  obtain ⟨hk, hn⟩ := List.getElem?_eq_some_iff.1 hx
  rw [List.drop_eq_getElem_cons hk, hn, findPr, List.findIdx?_cons] at h
  refine ⟨fun he => ?_, fun he => ?_⟩
  · rw [if_pos he] at h
    exact h.symm
  · rw [if_neg (by rw [he]; decide), Option.isSome_map] at h
    exact h
set_option maxRecDepth 100000 in
set_option maxHeartbeats 400000 in
theorem sized_any (x : Pr) (A1 A2 : Option Addr) (n1 c1 n2 c2 : Nat) (w : World) :
    Calls Tryd.prog 76 #[.agg #[.string (str x.name), .int .i64 x.thick, .int .i64 x.width, .int .i64 x.allow, .int .i64 x.wane, .slice A1 n1 c1, .slice A2 n2 c2]] w fun e w' => e = .returned (.bool (sizeOkP x.thick && sizeOkP x.width)) ∧ Below w.heap.size w w' := by
  obtain ⟨r, hr⟩ : ∃ r, (sizeOkP x.thick && sizeOkP x.width) = r := ⟨_, rfl⟩
  rw [hr]
  simp only [sizeOkP] at hr
  by_cases g1 : x.thick < 1
  · have hrz : r = false := by rw [← hr, Bool.eq_false_iff]; intro hc; simp only [Bool.and_eq_true, decide_eq_true_eq] at hc; omega
    subst hrz
    clear hr
    go_enter Tryd.func76, Tryd.ntmps76
    go_wp2_with fail
    go_ret
    exact ⟨ret_bool (by first | rfl | (rw [decide_eq_false_iff_not]; omega)), (Below.refl _ _).alloc (Nat.le_refl _) _⟩
  · have k1 := Int.not_lt.1 g1
    clear g1
    by_cases g2 : 600 < x.thick
    · have hrz : r = false := by rw [← hr, Bool.eq_false_iff]; intro hc; simp only [Bool.and_eq_true, decide_eq_true_eq] at hc; omega
      subst hrz
      clear hr
      go_enter Tryd.func76, Tryd.ntmps76
      go_wp2_with fail
      go_ret
      exact ⟨ret_bool (by first | rfl | (rw [decide_eq_false_iff_not]; omega)), (Below.refl _ _).alloc (Nat.le_refl _) _⟩
    · have k2 := Int.not_lt.1 g2
      clear g2
      by_cases g3 : x.width < 1
      · have hrz : r = false := by rw [← hr, Bool.eq_false_iff]; intro hc; simp only [Bool.and_eq_true, decide_eq_true_eq] at hc; omega
        subst hrz
        clear hr
        go_enter Tryd.func76, Tryd.ntmps76
        go_wp2_with fail
        go_ret
        exact ⟨ret_bool (by first | rfl | (rw [decide_eq_false_iff_not]; omega)), (Below.refl _ _).alloc (Nat.le_refl _) _⟩
      · have k3 := Int.not_lt.1 g3
        clear g3
        by_cases g4 : 600 < x.width
        · have hrz : r = false := by rw [← hr, Bool.eq_false_iff]; intro hc; simp only [Bool.and_eq_true, decide_eq_true_eq] at hc; omega
          subst hrz
          clear hr
          go_enter Tryd.func76, Tryd.ntmps76
          go_wp2_with fail
          go_ret
          exact ⟨ret_bool (by first | rfl | (rw [decide_eq_false_iff_not]; omega)), (Below.refl _ _).alloc (Nat.le_refl _) _⟩
        · have k4 := Int.not_lt.1 g4
          clear g4
          have hrz : r = true := by rw [← hr]; simp only [Bool.and_eq_true, decide_eq_true_eq]; omega
          subst hrz
          clear hr
          go_enter Tryd.func76, Tryd.ntmps76
          go_wp2_with fail
          go_ret
          exact ⟨rfl, (Below.refl _ _).alloc (Nat.le_refl _) _⟩
set_option maxRecDepth 100000 in
set_option maxHeartbeats 400000 in
theorem refGreen_any (x : Pr) (A1 A2 : Option Addr) (n1 c1 n2 c2 : Nat) (w : World) :
    Calls Tryd.prog 38 #[.agg #[.string (str x.name), .int .i64 x.thick, .int .i64 x.width, .int .i64 x.allow, .int .i64 x.wane, .slice A1 n1 c1, .slice A2 n2 c2]] w fun e w' => e = .returned (.tuple #[.int .i64 (greenP x).1, .int .i64 (greenP x).2]) ∧ Below w.heap.size w w' := by
  obtain ⟨r, hr⟩ : ∃ r, greenP x = r := ⟨_, rfl⟩
  rw [hr]
  unfold greenP at hr
  have HR := Lib.hid hr
  clear hr
  go_enter Tryd.func38, Tryd.ntmps38
  go_wp2_with fail
  refine (sized_any x A1 A2 _ _ _ _ _).mono ?_
  rintro e w1 ⟨he, hb⟩
  rw [World.size_alloc] at hb
  have HB := Lib.hid (((Below.refl _ _).alloc (Nat.le_refl _) (.cells #[.string (str x.name), .int .i64 x.thick, .int .i64 x.width, .int .i64 x.allow, .int .i64 x.wane, .slice A1 n1 c1, .slice A2 n2 c2] 74)).trans (hb.mono (by omega)))
  have q1 : w1.cell? ⟨w.heap.size, 1, none⟩ = some (.int .i64 x.thick) := (hb.cell (p := ⟨w.heap.size, 1, none⟩) (by show w.heap.size < _; omega)).trans (by rw [World.cell?_alloc_at _ _ _ _ rfl]; rfl)
  have q2 : w1.cell? ⟨w.heap.size, 2, none⟩ = some (.int .i64 x.width) := (hb.cell (p := ⟨w.heap.size, 2, none⟩) (by show w.heap.size < _; omega)).trans (by rw [World.cell?_alloc_at _ _ _ _ rfl]; rfl)
  have q3 : w1.cell? ⟨w.heap.size, 3, none⟩ = some (.int .i64 x.allow) := (hb.cell (p := ⟨w.heap.size, 3, none⟩) (by show w.heap.size < _; omega)).trans (by rw [World.cell?_alloc_at _ _ _ _ rfl]; rfl)
  cases hz : (sizeOkP x.thick && sizeOkP x.width) with
  | false =>
    rw [hz] at he
    subst he
    have hrz : r = (0, 0) := by rw [← HR.out, hz]; rfl
    subst hrz
    clear hb
    go_wp2_with fail
    go_ret2
    exact ⟨rfl, HB.out⟩
  | true =>
    rw [hz] at he
    subst he
    have hr := HR.out
    rw [hz] at hr
    simp only [Bool.true_and, Bool.and_eq_true, decide_eq_true_eq] at hr
    simp only [sizeOkP, Bool.and_eq_true, decide_eq_true_eq] at hz
    clear hb
    by_cases h3 : 0 ≤ x.allow ∧ x.allow ≤ 200
    · rw [if_pos h3] at hr
      obtain ⟨h3, h4⟩ := h3
      obtain ⟨p, hp⟩ : ∃ p, x.thick * (1000 + x.allow) = p := ⟨_, rfl⟩
      obtain ⟨p', hp'⟩ : ∃ p, x.width * (1000 + x.allow) = p := ⟨_, rfl⟩
      have b1 := mul_bd (a := x.thick) (b := 1000 + x.allow) (x := 600) (y := 1200) (by omega) (by omega) (by omega) (by omega)
      have b2 := mul_bd (a := x.width) (b := 1000 + x.allow) (x := 600) (y := 1200) (by omega) (by omega) (by omega) (by omega)
      rw [hp] at b1
      rw [hp'] at b2
      unfold growP at hr
      rw [hp, hp'] at hr
      subst hr
      have t1 : (p + 999).tdiv 1000 = (p + 999) / 1000 := Int.tdiv_eq_ediv_of_nonneg (by omega)
      have t2 : (p' + 999).tdiv 1000 = (p' + 999) / 1000 := Int.tdiv_eq_ediv_of_nonneg (by omega)
      obtain ⟨b1a, b1b⟩ := b1
      obtain ⟨b2a, b2b⟩ := b2
      clear hz HR
      go_wp2_with fail
      go_quiet (fail)
      go_wp2_with fail
      go_ret2
      exact ⟨rfl, below_drewNn HB.out _⟩
    · rw [if_neg h3] at hr
      subst hr
      clear hz HR
      by_cases h4 : x.allow < 0
      · clear h3
        go_wp2_with fail
        go_ret2
        exact ⟨rfl, HB.out⟩
      · have h5 : 200 < x.allow := by omega
        clear h3
        go_wp2_with fail
        go_ret2
        exact ⟨rfl, HB.out⟩
set_option maxRecDepth 100000 in
set_option maxHeartbeats 1000000 in
theorem checkLengths_any (x : Pr) (A1 A2 : Option Addr) (c1 c2 : Nat) (w : World) (h1 : RdI w w.heap.size (.slice A1 x.lens.length c1) x.lens) (h2 : RdI w w.heap.size (.slice A2 x.prices.length c2) x.prices) :
    Calls Tryd.prog 39 #[.agg #[.string (str x.name), .int .i64 x.thick, .int .i64 x.width, .int .i64 x.allow, .int .i64 x.wane, .slice A1 x.lens.length c1, .slice A2 x.prices.length c2]] w (IntB (listsP x) w) := by
  obtain ⟨r, hr⟩ : ∃ r, listsP x = r := ⟨_, rfl⟩
  rw [hr]
  obtain ⟨_, _, _, _, hl1⟩ := h1.form
  obtain ⟨_, _, _, _, hl2⟩ := h2.form
  unfold maxLen at hl1 hl2
  have HR3 := Lib.hid hr
  have hb0 : Below w.heap.size w (w.alloc (.cells #[.string (str x.name), .int .i64 x.thick, .int .i64 x.width, .int .i64 x.allow, .int .i64 x.wane, .slice A1 x.lens.length c1, .slice A2 x.prices.length c2] 74)) := (Below.refl _ _).alloc (Nat.le_refl _) _
  have HL0 := Lib.hid h1
  have HP0 := Lib.hid h2
  have HB := Lib.hid hb0
  clear hr h1 h2 hb0
  go_enter Tryd.func39, Tryd.ntmps39
  by_cases g10 : x.lens.length = 0
  · have hrz : r = 3 := by rw [← HR3.out, listsP, if_pos g10]
    subst hrz
    have gb : ((x.lens.length : Int) == 0) = true := by rw [g10]; rfl
    clear HR3 g10
    go_wp2_with fail
    go_ret
    exact ⟨rfl, HB.out⟩
  · have gb : ((x.lens.length : Int) == 0) = false := by rw [beq_eq_false_iff_ne]; omega
    by_cases g11 : 8 < x.lens.length
    · have hrz : r = 4 := by rw [← HR3.out, listsP, if_neg g10, if_pos g11]
      subst hrz
      clear HR3 g10
      go_wp2_with fail
      go_ret
      exact ⟨rfl, HB.out⟩
    · by_cases g12 : x.prices.length ≠ x.lens.length
      · have hrz : r = 19 := by rw [← HR3.out, listsP, if_neg g10, if_neg g11, if_pos g12]
        subst hrz
        have gc : ((x.prices.length : Int) != (x.lens.length : Int)) = true := by rw [bne_iff_ne]; omega
        clear HR3 g10 g12
        go_wp2_with fail
        go_ret
        exact ⟨rfl, HB.out⟩
      · have gc : ((x.prices.length : Int) != (x.lens.length : Int)) = false := by rw [bne_eq_false_iff_eq]; omega
        obtain ⟨e0, he0⟩ : ∃ e0, lensFrom x.lens 0 = e0 := ⟨_, rfl⟩
        have HE0 := Lib.hid he0
        have HR4 := Lib.hid (show (if e0 ≠ 0 then e0 else pricesFrom x.prices 0) = r by rw [← HR3.out, listsP, if_neg g10, if_neg g11, if_neg g12, he0])
        clear he0 HR3 g10 g12
        go_wp2_with fail
        go_loopw [3] (fun i wr => ∃ k : Nat, k ≤ x.lens.length ∧ i = .int .i64 k ∧ lensFrom x.lens k = e0 ∧ Below w.heap.size w wr ∧ wr.cell? ⟨w.heap.size, 5, none⟩ = some (.slice A1 x.lens.length c1) ∧ wr.cell? ⟨w.heap.size, 6, none⟩ = some (.slice A2 x.prices.length c2)) (fun i _ => x.lens.length - (intOf i).toNat)
        case atStart => exact ⟨0, by omega, rfl, HE0.out, HB.out, by rw [World.cell?_alloc_at _ _ _ _ rfl]; rfl, by rw [World.cell?_alloc_at _ _ _ _ rfl]; rfl⟩
        case round =>
          obtain ⟨k, hk, rfl, hek, hbr, q5, q6⟩ := hrel
          have HL1 := Lib.hid (HL0.out.below hbr)
          have HP1 := Lib.hid (HP0.out.below hbr)
          clear HB
          have HB := Lib.hid hbr
          clear hbr
          by_cases hlt : k < x.lens.length
          · have hx : x.lens[k]? = some x.lens[k] := List.getElem?_eq_getElem hlt
            obtain ⟨n, hn⟩ : ∃ n, x.lens[k] = n := ⟨_, rfl⟩
            rw [hn] at hx
            rw [lensFrom_at hx] at hek
            obtain ⟨b, off, rfl, hbl, d0⟩ := RdI.at_ HL1.out hx
            have HEK := Lib.hid hek
            have HX := Lib.hid hx
            clear hek hx hn
            by_cases z1 : n < 100
            · have hez : e0 = 9 := by rw [← HEK.out, if_pos (by omega)]
              have hrz : r = 9 := by rw [← HR4.out, hez]; rfl
              subst hrz
              clear hez
              go_wp2_with fail
              go_ret
              exact ⟨rfl, HB.out⟩
            · by_cases z2 : 20000 < n
              · have hez : e0 = 9 := by rw [← HEK.out, if_pos (by omega)]
                have hrz : r = 9 := by rw [← HR4.out, hez]; rfl
                subst hrz
                clear hez
                go_wp2_with fail
                go_ret
                exact ⟨rfl, HB.out⟩
              · cases k with
                | zero =>
                  have HN := Lib.hid (show lensFrom x.lens 1 = e0 by rw [← HEK.out, if_neg (by omega), if_neg (by omega)])
                  rw [Nat.add_zero] at d0
                  go_wp2_with fail
                  go_quiet (fail)
                  go_wp2_with fail
                  exact ⟨⟨1, by omega, by go_num, HN.out, below_drewNn HB.out _, q5, q6⟩, by simp [intOf]; omega⟩
                | succ k =>
                  have hy : x.lens[k]? = some x.lens[k] := List.getElem?_eq_getElem (by omega)
                  obtain ⟨m, hm⟩ : ∃ m, x.lens[k] = m := ⟨_, rfl⟩
                  rw [hm] at hy
                  have hgd : x.lens.getD k 0 = m := by rw [List.getD_eq_getElem?_getD, hy]; rfl
                  obtain ⟨b', off', hA, hbl', d1⟩ := RdI.at_ HL1.out hy
                  injection hA with hA
                  injection hA with e1 e2
                  subst e1 e2
                  have HEK2 := Lib.hid (show (if n ≤ m then 11 else lensFrom x.lens (k + 1 + 1)) = e0 by have h9 := HEK.out; rw [if_neg (by omega), Nat.add_sub_cancel, hgd] at h9; simpa using h9)
                  clear hgd hy hm HEK
                  by_cases z3 : n ≤ m
                  · have hez : e0 = 11 := by rw [← HEK2.out, if_pos z3]
                    have hrz : r = 11 := by rw [← HR4.out, hez]; rfl
                    subst hrz
                    clear hez
                    go_wp2_with fail
                    go_quiet (fail)
                    go_wp2_with fail
                    go_ret
                    exact ⟨rfl, below_drewNn HB.out _⟩
                  · have HN := Lib.hid (show lensFrom x.lens (k + 1 + 1) = e0 by rw [← HEK2.out, if_neg z3])
                    go_wp2_with fail
                    go_quiet (fail)
                    go_wp2_with fail
                    exact ⟨⟨k + 1 + 1, by omega, by go_num, HN.out, below_drewNn HB.out _, q5, q6⟩, by simp [intOf]; omega⟩
          · have he : e0 = 0 := by rw [← hek, lensFrom_end hlt]
            have HR5 := Lib.hid (show pricesFrom x.prices 0 = r by rw [← HR4.out, if_neg (by rw [he]; simp)])
            clear hek he HR4 HE0
            go_wp2_with fail
            go_loop [4] (fun i => ∃ k : Nat, k ≤ x.prices.length ∧ i = .int .i64 k ∧ pricesFrom x.prices k = r) (fun i => x.prices.length - (intOf i).toNat)
            case atStart => exact ⟨0, by omega, rfl, HR5.out⟩
            case round =>
              obtain ⟨j, hj, rfl, hej⟩ := hrel
              by_cases hltj : j < x.prices.length
              · have hx : x.prices[j]? = some x.prices[j] := List.getElem?_eq_getElem hltj
                obtain ⟨n, hn⟩ : ∃ n, x.prices[j] = n := ⟨_, rfl⟩
                rw [hn] at hx
                rw [pricesFrom_at hx] at hej
                obtain ⟨b, off, rfl, hbl, d0⟩ := RdI.at_ HP1.out hx
                have HEK := Lib.hid hej
                clear hej hx hn
                by_cases z1 : n < 0
                · have hrz : r = 9 := by rw [← HEK.out, if_pos (by omega)]
                  subst hrz
                  go_wp2_with fail
                  go_ret
                  exact ⟨rfl, HB.out⟩
                · by_cases z2 : 1000000 < n
                  · have hrz : r = 9 := by rw [← HEK.out, if_pos (by omega)]
                    subst hrz
                    go_wp2_with fail
                    go_ret
                    exact ⟨rfl, HB.out⟩
                  · have HN := Lib.hid (show pricesFrom x.prices (j + 1) = r by rw [← HEK.out, if_neg (by omega)])
                    go_wp2_with fail
                    exact ⟨⟨j + 1, by omega, by go_num, HN.out⟩, by simp [intOf]; omega⟩
              · have hrz : r = 0 := by rw [← hej, pricesFrom_end hltj]
                subst hrz
                clear hej HR5
                go_wp2_with fail
                go_ret
                exact ⟨rfl, HB.out⟩
set_option maxRecDepth 100000 in
set_option maxHeartbeats 2000000 in
theorem refPrCheck_any (l : List Pr) (v : Value) (w : World) (hrd : RdPr w w.heap.size v l) (hnm : ∀ x ∈ l, x.name.length ≤ 1000000) :
    Calls Tryd.prog 11 #[v] w (IntB (checkPr l) w) := by
  obtain ⟨A, c, rfl, hc, hml⟩ := hrd.form
  obtain ⟨r, hr⟩ : ∃ r, checkPr l = r := ⟨_, rfl⟩
  rw [hr]
  unfold maxLen at hml
  by_cases h16 : 16 < l.length
  · have hrz : r = 4 := by rw [← hr, checkPr, if_pos h16]
    subst hrz
    clear hr hrd
    go_enter Tryd.func11, Tryd.ntmps11
    go_wp2_with fail
    go_ret
    exact ⟨rfl, Below.refl _ _⟩
  · rw [checkPr, if_neg h16] at hr
    have HR := Lib.hid hr
    have HRD := Lib.hid hrd
    have HNM := Lib.hid hnm
    clear hr hrd hnm
    go_enter Tryd.func11, Tryd.ntmps11
    go_wp2_with fail
    go_loopw [3] (fun i wr => ∃ k : Nat, k ≤ l.length ∧ i = .int .i64 k ∧ checkPrFrom l k = r ∧ Below w.heap.size w wr) (fun i _ => l.length - (intOf i).toNat)
    case atStart => exact ⟨0, by omega, rfl, HR.out, Below.refl _ _⟩
    case round =>
      obtain ⟨k, hk, rfl, hrk, hb⟩ := hrel
      have HB := Lib.hid hb
      have hsz := hb.size
      clear hb
      by_cases hlt : k < l.length
      · have hx : l[k]? = some l[k] := List.getElem?_eq_getElem hlt
        obtain ⟨x, hxe⟩ : ∃ x, l[k] = x := ⟨_, rfl⟩
        have hxn : x.name.length ≤ 1000000 := HNM.out x (by rw [← hxe]; exact List.getElem_mem hlt)
        rw [hxe] at hx
        rw [checkPr_at hx] at hrk
        obtain ⟨b, off, A1, c1, A2, c2, rfl, hbl, _, _, hri, hrp, q0, q1, q2, q3, q4, q5, q6⟩ := RdPr.at_ (HRD.out.below HB.out) hx
        have HST := Lib.hid hrk
        have HRI := Lib.hid hri
        have HRP := Lib.hid hrp
        clear hxe hx hrk hri hrp
        go_wp2_with fail
        refine (refIsName_any _ _ (by rw [size_str]; omega)).mono ?_
        rintro e w1 ⟨he, rfl⟩
        rw [bts_str] at he
        cases hnm : isNameP x.name
        · rw [hnm] at he
          subst he
          have hr6 : r = 6 := by rw [← HST.out, if_pos hnm]
          subst hr6
          clear hnm
          go_wp2_with fail
          go_ret
          exact ⟨rfl, HB.out.alloc hsz _⟩
        · rw [hnm] at he
          subst he
          have HNM1 := Lib.hid hnm
          clear hnm
          go_wp2_with fail
          obtain ⟨N, hN⟩ : ∃ N, wr.heap.size = N := ⟨_, rfl⟩
          obtain ⟨W1, hW1⟩ : ∃ W1, wr.alloc (.cells #[.string (str x.name), .int .i64 x.thick, .int .i64 x.width, .int .i64 x.allow, .int .i64 x.wane, .slice A1 x.lens.length c1, .slice A2 x.prices.length c2] 74) = W1 := ⟨_, rfl⟩
          have hz1 : W1.heap.size = N + 1 := by rw [← hW1, World.size_alloc, hN]
          have hG1 : W1.heap[N]? = some (.cells #[.string (str x.name), .int .i64 x.thick, .int .i64 x.width, .int .i64 x.allow, .int .i64 x.wane, .slice A1 x.lens.length c1, .slice A2 x.prices.length c2] 74 (0, 0)) := by rw [← hW1, ← hN]; exact heap_alloc_last wr _
          have HC1 := Lib.hid (show W1.cell? ⟨N, 0, none⟩ = some (.string (str x.name)) ∧ W1.cell? ⟨N, 1, none⟩ = some (.int .i64 x.thick) ∧ W1.cell? ⟨N, 2, none⟩ = some (.int .i64 x.width) ∧ W1.cell? ⟨N, 3, none⟩ = some (.int .i64 x.allow) ∧ W1.cell? ⟨N, 4, none⟩ = some (.int .i64 x.wane) ∧ W1.cell? ⟨N, 5, none⟩ = some (.slice A1 x.lens.length c1) ∧ W1.cell? ⟨N, 6, none⟩ = some (.slice A2 x.prices.length c2) from ⟨cell_of_box hG1 rfl, cell_of_box hG1 rfl, cell_of_box hG1 rfl, cell_of_box hG1 rfl, cell_of_box hG1 rfl, cell_of_box hG1 rfl, cell_of_box hG1 rfl⟩)
          have hb1 : Below w.heap.size w W1 := by rw [← hW1]; exact HB.out.alloc hsz _
          have hbr : Below wr.heap.size wr W1 := by rw [← hW1]; exact (Below.refl _ _).alloc (Nat.le_refl _) _
          have hNw : w.heap.size ≤ N := by omega
          obtain ⟨q, hq⟩ : ∃ q, (findPr (l.take k) x.name).isSome = q := ⟨_, rfl⟩
          have HQ := Lib.hid hq
          have HB1 := Lib.hid hb1
          have HRI1 := Lib.hid (HRI.out.below (hbr.mono hsz))
          have HRP1 := Lib.hid (HRP.out.below (hbr.mono hsz))
          rw [hW1, hN]
          clear hW1 hb1 hbr hG1 hq q0 q1 q2 q3 q4 q5 q6
          go_loopw [5] (fun i wj => ∃ j : Nat, j ≤ k ∧ i = .int .i64 j ∧ (findPr ((l.take k).drop j) x.name).isSome = q ∧ Below (N + 1) W1 wj) (fun i _ => k - (intOf i).toNat)
          case atStart => exact ⟨0, by omega, rfl, HQ.out, Below.refl _ _⟩
          case round =>
            obtain ⟨j, hj, rfl, hqj, hbj⟩ := hrel
            have hszj : N + 1 ≤ wr.heap.size := by have := hbj.size; omega
            have hbw : Below w.heap.size w wr := HB1.out.trans (hbj.mono (by omega))
            have HBJ := Lib.hid hbj
            have HBW := Lib.hid hbw
            by_cases hjk : j < k
            · have hy : l[j]? = some l[j] := List.getElem?_eq_getElem (by omega)
              obtain ⟨y, hye⟩ : ∃ y, l[j] = y := ⟨_, rfl⟩
              rw [hye] at hy
              have hyt : (l.take k)[j]? = some y := by rw [List.getElem?_take, if_pos hjk]; exact hy
              obtain ⟨b', off', B1, d1, B2, d2, hA, _, _, _, _, _, y0, _⟩ := RdPr.at_ (HRD.out.below hbw) hy
              injection hA with hA
              injection hA with e1 e2
              subst e1 e2
              have hn := str_eqb y.name x.name
              have HF := Lib.hid (findPr_step hyt hqj)
              have p0 : wr.cell? ⟨N, 0, none⟩ = some (.string (str x.name)) := (hbj.cell (p := ⟨N, 0, none⟩) (by show N < _; omega)).trans HC1.out.1
              have hj0 : (0 : Int) ≤ (j : Int) := by omega
              have hj1 : (j : Int) < (l.length : Int) := by omega
              have hbj1 : b < wr.heap.size := by omega
              have hbj2 : N < wr.heap.size := by omega
              clear hye hy hyt hqj hbw hbj
              cases he : (y.name == x.name)
              · rw [he] at hn
                have HN := Lib.hid (HF.out.2 he)
                clear he
                go_wp2_with fail
                go_quiet (fail)
                go_wp2_with fail
                exact ⟨⟨j + 1, by omega, by go_num, HN.out, below_drewNn HBJ.out _⟩, by simp [intOf]; omega⟩
              · rw [he] at hn
                have hqt := HF.out.1 he
                have hr7 : r = 7 := by rw [← HST.out, if_neg (by rw [HNM1.out]; decide), if_pos (by rw [HQ.out]; exact hqt)]
                subst hr7
                clear he hqt
                go_wp2_with fail
                go_quiet (fail)
                go_wp2_with fail
                go_ret
                exact ⟨rfl, below_drewNn HBW.out _⟩
            · have hqf : q = false := by
                rw [List.drop_eq_nil_of_le (by rw [List.length_take]; omega)] at hqj
                exact hqj.symm
              have HST1 := Lib.hid (show (if checkNumP x ≠ 0 then checkNumP x else checkPrFrom l (k + 1)) = r by have h9 := HST.out; rw [if_neg (by rw [HNM1.out]; decide), if_neg (by rw [HQ.out, hqf]; decide)] at h9; exact h9)
              have HRIJ := Lib.hid (HRI1.out.below (hbj.mono (by omega)))
              have HRPJ := Lib.hid (HRP1.out.below (hbj.mono (by omega)))
              have p0 : wr.cell? ⟨N, 0, none⟩ = some (.string (str x.name)) := (hbj.cell (p := ⟨N, 0, none⟩) (by show N < _; omega)).trans HC1.out.1
              have p1 : wr.cell? ⟨N, 1, none⟩ = some (.int .i64 x.thick) := (hbj.cell (p := ⟨N, 1, none⟩) (by show N < _; omega)).trans HC1.out.2.1
              have p2 : wr.cell? ⟨N, 2, none⟩ = some (.int .i64 x.width) := (hbj.cell (p := ⟨N, 2, none⟩) (by show N < _; omega)).trans HC1.out.2.2.1
              have p3 : wr.cell? ⟨N, 3, none⟩ = some (.int .i64 x.allow) := (hbj.cell (p := ⟨N, 3, none⟩) (by show N < _; omega)).trans HC1.out.2.2.2.1
              have p4 : wr.cell? ⟨N, 4, none⟩ = some (.int .i64 x.wane) := (hbj.cell (p := ⟨N, 4, none⟩) (by show N < _; omega)).trans HC1.out.2.2.2.2.1
              have p5 : wr.cell? ⟨N, 5, none⟩ = some (.slice A1 x.lens.length c1) := (hbj.cell (p := ⟨N, 5, none⟩) (by show N < _; omega)).trans HC1.out.2.2.2.2.2.1
              have p6 : wr.cell? ⟨N, 6, none⟩ = some (.slice A2 x.prices.length c2) := (hbj.cell (p := ⟨N, 6, none⟩) (by show N < _; omega)).trans HC1.out.2.2.2.2.2.2
              clear hqf hqj hbj hbw HST
              by_cases g1 : x.thick < 5
              · have hcz : checkNumP x = 9 := by rw [checkNumP, if_pos (by omega)]
                have hrz : r = 9 := by rw [← HST1.out, hcz]; rfl
                subst hrz
                clear hcz HST1
                go_wp2_with fail
                go_ret
                exact ⟨rfl, HBW.out⟩
              · have k1 := Int.not_lt.1 g1
                clear g1
                by_cases g2 : 300 < x.thick
                · have hcz : checkNumP x = 9 := by rw [checkNumP, if_pos (by omega)]
                  have hrz : r = 9 := by rw [← HST1.out, hcz]; rfl
                  subst hrz
                  clear hcz HST1
                  go_wp2_with fail
                  go_ret
                  exact ⟨rfl, HBW.out⟩
                · have k2 := Int.not_lt.1 g2
                  clear g2
                  by_cases g3 : x.width < x.thick
                  · have hcz : checkNumP x = 9 := by rw [checkNumP, if_pos (by omega)]
                    have hrz : r = 9 := by rw [← HST1.out, hcz]; rfl
                    subst hrz
                    clear hcz HST1
                    go_wp2_with fail
                    go_ret
                    exact ⟨rfl, HBW.out⟩
                  · have k3 := Int.not_lt.1 g3
                    clear g3
                    by_cases g4 : 600 < x.width
                    · have hcz : checkNumP x = 9 := by rw [checkNumP, if_pos (by omega)]
                      have hrz : r = 9 := by rw [← HST1.out, hcz]; rfl
                      subst hrz
                      clear hcz HST1
                      go_wp2_with fail
                      go_ret
                      exact ⟨rfl, HBW.out⟩
                    · have k4 := Int.not_lt.1 g4
                      clear g4
                      by_cases g5 : x.allow < 0
                      · have hcz : checkNumP x = 9 := by rw [checkNumP, if_neg (by omega), if_pos (by omega)]
                        have hrz : r = 9 := by rw [← HST1.out, hcz]; rfl
                        subst hrz
                        clear hcz HST1
                        go_wp2_with fail
                        go_ret
                        exact ⟨rfl, HBW.out⟩
                      · have k5 := Int.not_lt.1 g5
                        clear g5
                        by_cases g6 : 200 < x.allow
                        · have hcz : checkNumP x = 9 := by rw [checkNumP, if_neg (by omega), if_pos (by omega)]
                          have hrz : r = 9 := by rw [← HST1.out, hcz]; rfl
                          subst hrz
                          clear hcz HST1
                          go_wp2_with fail
                          go_ret
                          exact ⟨rfl, HBW.out⟩
                        · have k6 := Int.not_lt.1 g6
                          clear g6
                          by_cases g7 : x.wane < 0
                          · have hcz : checkNumP x = 9 := by rw [checkNumP, if_neg (by omega), if_pos (by omega)]
                            have hrz : r = 9 := by rw [← HST1.out, hcz]; rfl
                            subst hrz
                            clear hcz HST1
                            go_wp2_with fail
                            go_ret
                            exact ⟨rfl, HBW.out⟩
                          · have k7 := Int.not_lt.1 g7
                            clear g7
                            by_cases g8 : 1000 < x.wane
                            · have hcz : checkNumP x = 9 := by rw [checkNumP, if_neg (by omega), if_pos (by omega)]
                              have hrz : r = 9 := by rw [← HST1.out, hcz]; rfl
                              subst hrz
                              clear hcz HST1
                              go_wp2_with fail
                              go_ret
                              exact ⟨rfl, HBW.out⟩
                            · have k8 := Int.not_lt.1 g8
                              clear g8
                              obtain ⟨gt, gw, hg⟩ : ∃ gt gw, greenP x = (gt, gw) := ⟨_, _, rfl⟩
                              have HGR := Lib.hid hg
                              have hcn : checkNumP x = if 600 < gw then 9 else listsP x := by rw [checkNumP, if_neg (by omega), if_neg (by omega), hg]
                              have HCN := Lib.hid hcn
                              clear hg hcn
                              go_wp2_with fail
                              refine (refGreen_any x A1 A2 _ _ _ _ _).mono ?_
                              rintro e w2 ⟨he, hb2⟩
                              rw [HGR.out] at he
                              subst he
                              have HB2 := Lib.hid (HBW.out.trans (hb2.mono HBW.out.size))
                              have r0 : w2.cell? ⟨N, 0, none⟩ = some (.string (str x.name)) := (hb2.cell (p := ⟨N, 0, none⟩) (by show N < _; omega)).trans p0
                              have r1 : w2.cell? ⟨N, 1, none⟩ = some (.int .i64 x.thick) := (hb2.cell (p := ⟨N, 1, none⟩) (by show N < _; omega)).trans p1
                              have r2 : w2.cell? ⟨N, 2, none⟩ = some (.int .i64 x.width) := (hb2.cell (p := ⟨N, 2, none⟩) (by show N < _; omega)).trans p2
                              have r3 : w2.cell? ⟨N, 3, none⟩ = some (.int .i64 x.allow) := (hb2.cell (p := ⟨N, 3, none⟩) (by show N < _; omega)).trans p3
                              have r4 : w2.cell? ⟨N, 4, none⟩ = some (.int .i64 x.wane) := (hb2.cell (p := ⟨N, 4, none⟩) (by show N < _; omega)).trans p4
                              have r5 : w2.cell? ⟨N, 5, none⟩ = some (.slice A1 x.lens.length c1) := (hb2.cell (p := ⟨N, 5, none⟩) (by show N < _; omega)).trans p5
                              have r6 : w2.cell? ⟨N, 6, none⟩ = some (.slice A2 x.prices.length c2) := (hb2.cell (p := ⟨N, 6, none⟩) (by show N < _; omega)).trans p6
                              have HRI2 := Lib.hid (HRIJ.out.below (hb2.mono HBW.out.size))
                              have HRP2 := Lib.hid (HRPJ.out.below (hb2.mono HBW.out.size))
                              have hsz2 : w.heap.size ≤ w2.heap.size := HB2.out.size
                              clear hb2 p0 p1 p2 p3 p4 p5 p6
                              by_cases g9 : 600 < gw
                              · have hrz : r = 9 := by rw [← HST1.out, HCN.out, if_pos g9]; rfl
                                subst hrz
                                clear HST1 HCN HGR
                                go_wp2_with fail
                                go_ret
                                exact ⟨rfl, HB2.out⟩
                              · have k9 := Int.not_lt.1 g9
                                obtain ⟨e8, he8⟩ : ∃ e8, listsP x = e8 := ⟨_, rfl⟩
                                have HST2 := Lib.hid (show (if e8 ≠ 0 then e8 else checkPrFrom l (k + 1)) = r by have h9 := HST1.out; rw [HCN.out, if_neg g9, he8] at h9; exact h9)
                                have HE8 := Lib.hid he8
                                clear g9 he8 HST1 HCN HGR
                                go_wp2_with fail
                                refine (checkLengths_any x A1 A2 c1 c2 _ ((show RdI w2 w.heap.size _ x.lens from HRI2.out).more hsz2) ((show RdI w2 w.heap.size _ x.prices from HRP2.out).more hsz2)).mono ?_
                                rintro e w7 ⟨he, hb7⟩
                                rw [HE8.out] at he
                                subst he
                                have HB7 := Lib.hid (HB2.out.trans (hb7.mono hsz2))
                                clear hb7
                                by_cases hz : e8 = 0
                                · subst hz
                                  have HN := Lib.hid (show checkPrFrom l (k + 1) = r by have h9 := HST2.out; rw [if_neg (by simp)] at h9; exact h9)
                                  go_wp2_with fail
                                  exact ⟨⟨k + 1, by omega, by go_num, HN.out, HB7.out⟩, by simp [intOf]; omega⟩
                                · have hrz : e8 = r := by have h9 := HST2.out; rw [if_pos hz] at h9; exact h9
                                  subst hrz
                                  have hzb : (e8 != 0) = true := by rw [bne_iff_ne]; exact hz
                                  clear hz
                                  go_wp2_with fail
                                  go_ret
                                  exact ⟨rfl, HB7.out⟩
      · have hr0 : r = 0 := by rw [← hrk, checkPr_end hlt]
        subst hr0
        clear hrk HR
        go_wp2_with fail
        go_ret
        exact ⟨rfl, HB.out⟩
end Go.Proofs.YtbmcfodhjibooaaDoor
