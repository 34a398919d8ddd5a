/-
  Tiers and items in memory; the contracts of bill.Discount and sawmillref50.Discount.
-/
import Derived.Test.YtdbkdneolcgfjaaDoorBillB
namespace Saw
theorem tiers_ok {l : List Ti} : ∀ (n k : Nat), l.length - k ≤ n → tiersFrom l k = 0 → ∀ (i : Nat) (t : Ti), k ≤ i → l[i]? = some t → 0 ≤ t.off ∧ t.off ≤ 1000 := by
  intro n
  induction n with
  | zero => intro k hk _ i t hi ht; have := (List.getElem?_eq_some_iff.1 ht).1; omega
  | succ n ih =>
    intro k hk h i t hi ht
    have hil := (List.getElem?_eq_some_iff.1 ht).1
    have hkx : l[k]? = some l[k] := List.getElem?_eq_getElem (by omega)
    have key : (0 ≤ l[k].off ∧ l[k].off ≤ 1000) ∧ tiersFrom l (k + 1) = 0 := by
      cases k with
      | zero =>
        rw [tiersFrom_zero hkx] at h
        split at h
        · cases h
        · split at h
          · cases h
          · rename_i h2; exact ⟨by omega, h⟩
      | succ k =>
        have hku : l[k]? = some l[k] := List.getElem?_eq_getElem (by omega)
        rw [tiersFrom_at hkx hku] at h
        split at h
        · cases h
        · split at h
          · cases h
          · rename_i h2; exact ⟨by omega, h⟩
    by_cases hik : i = k
    · subst hik
      rw [hkx] at ht
      injection ht with ht
      subst ht
      exact key.1
    · exact ih (k + 1) (by omega) key.2 i t (by omega) ht
theorem offL_step {l : List Ti} {k : Nat} {t : Ti} {total o F : Int} (ht : l[k]? = some t) (h : offL total (l.drop k) o = F) : offL total (l.drop (k + 1)) (if t.lo ≤ total then t.off else o) = F := by
  obtain ⟨hk, hn⟩ := List.getElem?_eq_some_iff.1 ht
  rw [List.drop_eq_getElem_cons hk, hn, offL] at h
  exact h
end Saw
namespace Go.Proofs.YtdbkdneolcgfjaaDoor
open Go.RowKit Saw Go.Sort

def tiCells (t : Ti) : List Value := [.int .i64 t.lo, .int .i64 t.off]
def itCells (i : It) : List Value := [.int .i64 i.product, .int .i64 i.length, .int .i64 i.count, .int .i64 i.price]
def RdTi (w : World) (B : Nat) (v : Value) (l : List Ti) : Prop := Rd w B 2 v l.length (l.flatMap tiCells)
def RdIt (w : World) (B : Nat) (v : Value) (l : List It) : Prop := Rd w B 4 v l.length (l.flatMap itCells)
theorem flat_at {α : Type} (f : α → List Value) (C : Nat) (hf : ∀ x, (f x).length = C) : ∀ (l : List α) (i : Nat) (x : α), l[i]? = some x → ∀ j, j < C → (l.flatMap f)[i * C + j]? = (f x)[j]?
  | [], i, x, h, _, _ => by simp at h
  | y :: r, 0, x, h, j, hj => by
    simp only [List.getElem?_cons_zero, Option.some.injEq] at h
    subst h
    rw [List.flatMap_cons, List.getElem?_append_left (by rw [hf]; omega), Nat.zero_mul, Nat.zero_add]
  | y :: r, i + 1, x, h, j, hj => by
    simp only [List.getElem?_cons_succ] at h
    rw [List.flatMap_cons, List.getElem?_append_right (by rw [hf, Nat.add_mul]; omega), hf, ← flat_at f C hf r i x h j hj]
    congr 1
    rw [Nat.add_mul]
    omega
theorem flat_len {α : Type} (f : α → List Value) (C : Nat) (hf : ∀ x, (f x).length = C) (l : List α) : (l.flatMap f).length = l.length * C := by
  induction l with
  | nil => simp
  | cons y r ih => rw [List.flatMap_cons, List.length_append, hf, ih, List.length_cons, Nat.add_mul]; omega
theorem RdTi.form {w : World} {B : Nat} {v : Value} {l : List Ti} (h : RdTi w B v l) : ∃ A c, v = .slice A l.length c ∧ l.length ≤ c ∧ l.length ≤ maxLen := by
  obtain ⟨_, h2, A, c, rfl, hc, _⟩ := h
  exact ⟨A, c, rfl, hc, h2⟩
theorem RdIt.form {w : World} {B : Nat} {v : Value} {l : List It} (h : RdIt w B v l) : ∃ A c, v = .slice A l.length c ∧ l.length ≤ c ∧ l.length ≤ maxLen := by
  obtain ⟨_, h2, A, c, rfl, hc, _⟩ := h
  exact ⟨A, c, rfl, hc, h2⟩
theorem RdTi.at_ {w : World} {B : Nat} {A : Option Addr} {n c : Nat} {l : List Ti} (h : RdTi w B (.slice A n c) l) {i : Nat} {x : Ti} (hx : l[i]? = some x) :
    ∃ b off, A = some ⟨b, off, none⟩ ∧ b < B ∧ w.cell? ⟨b, off + i * 2, none⟩ = some (.int .i64 x.lo) ∧ w.cell? ⟨b, off + i * 2 + 1, none⟩ = some (.int .i64 x.off) := by
  obtain ⟨_, _, A', c', he, _, h3⟩ := h
  injection he with h1 h2 h4
  subst h1
  have hi : i < l.length := (List.getElem?_eq_some_iff.1 hx).1
  obtain ⟨b, off, rfl, hb, hcell⟩ := h3 (by omega)
  have hc : ∀ j, j < 2 → ∀ u, (tiCells x)[j]? = some u → w.cell? ⟨b, off + (i * 2 + j), none⟩ = some u := fun j hj u hu => hcell _ _ ((flat_at tiCells 2 (fun _ => rfl) l i x hx j hj).trans hu)
  exact ⟨b, off, rfl, hb, hc 0 (by omega) _ rfl, hc 1 (by omega) _ rfl⟩
theorem RdIt.at_ {w : World} {B : Nat} {A : Option Addr} {n c : Nat} {l : List It} (h : RdIt w B (.slice A n c) l) {i : Nat} {x : It} (hx : l[i]? = some x) :
    ∃ b off, A = some ⟨b, off, none⟩ ∧ b < B ∧ w.cell? ⟨b, off + i * 4, none⟩ = some (.int .i64 x.product) ∧ w.cell? ⟨b, off + i * 4 + 1, none⟩ = some (.int .i64 x.length) ∧ w.cell? ⟨b, off + i * 4 + 2, none⟩ = some (.int .i64 x.count) ∧ w.cell? ⟨b, off + i * 4 + 3, none⟩ = some (.int .i64 x.price) := by
  obtain ⟨_, _, A', c', he, _, h3⟩ := h
  injection he with h1 h2 h4
  subst h1
  have hi : i < l.length := (List.getElem?_eq_some_iff.1 hx).1
  obtain ⟨b, off, rfl, hb, hcell⟩ := h3 (by omega)
  have hc : ∀ j, j < 4 → ∀ u, (itCells x)[j]? = some u → w.cell? ⟨b, off + (i * 4 + j), none⟩ = some u := fun j hj u hu => hcell _ _ ((flat_at itCells 4 (fun _ => rfl) l i x hx j hj).trans hu)
  exact ⟨b, off, rfl, hb, hc 0 (by omega) _ rfl, hc 1 (by omega) _ rfl, hc 2 (by omega) _ rfl, hc 3 (by omega) _ rfl⟩


set_option maxRecDepth 100000 in
set_option maxHeartbeats 1000000 in
theorem discount_any (l : List Ti) (v : Value) (total : Int) (w : World) (hrd : RdTi w w.heap.size v l) :
    Calls Tryd.prog 14 #[v, .int .i64 total] w (AmtPost (discountP l total) w) := by
  obtain ⟨A, c, rfl, hc, hml⟩ := hrd.form
  obtain ⟨r, hr⟩ : ∃ r, discountP l total = r := ⟨_, rfl⟩
  rw [hr]
  unfold maxLen at hml
  unfold discountP at hr
  by_cases h8 : 8 < l.length
  · have hrz : r = (0, 4) := by rw [← hr, if_pos h8]
    subst hrz
    clear hr hrd
    go_enter Tryd.func14, Tryd.ntmps14
    go_wp2_with fail
    go_ret2
    exact ⟨rfl, Below.refl _ _⟩
  · rw [if_neg h8] at hr
    obtain ⟨e0, he0⟩ : ∃ e0, tiersFrom l 0 = e0 := ⟨_, rfl⟩
    rw [he0] at hr
    have HE0 := Lib.hid he0
    have HR := Lib.hid hr
    have HRD := Lib.hid hrd
    clear hr he0 hrd
    go_enter Tryd.func14, Tryd.ntmps14
    go_wp2_with fail
    go_loopw [16] (fun i wr => ∃ k : Nat, k ≤ l.length ∧ i = .int .i64 k ∧ tiersFrom l k = e0 ∧ Below w.heap.size w wr) (fun i _ => l.length - (intOf i).toNat)
    case atStart => exact ⟨0, by omega, rfl, HE0.out, Below.refl _ _⟩
    case round =>
      obtain ⟨k, hk, rfl, hek, hb⟩ := hrel
      have HB := Lib.hid hb
      have hsz := hb.size
      by_cases hlt : k < l.length
      · have hx : l[k]? = some l[k] := List.getElem?_eq_getElem hlt
        obtain ⟨t, hte⟩ : ∃ t, l[k] = t := ⟨_, rfl⟩
        rw [hte] at hx
        obtain ⟨b, off, rfl, hbl, q0, q1⟩ := RdTi.at_ (Rd.below HRD.out hb : RdTi _ _ _ _) hx
        clear hb
        go_wp2_with fail
        obtain ⟨N, hN⟩ : ∃ N, wr.heap.size = N := ⟨_, rfl⟩
        obtain ⟨W2, hW2⟩ : ∃ W2, wr.alloc (.cells #[.int .i64 t.lo, .int .i64 t.off] 56) = W2 := ⟨_, rfl⟩
        have hG2 : W2.heap[N]? = some (.cells #[.int .i64 t.lo, .int .i64 t.off] 56 (0, 0)) := by rw [← hW2, ← hN]; exact heap_alloc_last wr _
        have hb2 : Below wr.heap.size wr W2 := by rw [← hW2]; exact (Below.refl _ _).alloc (Nat.le_refl _) _
        have u0 : W2.cell? ⟨N, 0, none⟩ = some (.int .i64 t.lo) := cell_of_box hG2 rfl
        have u1 : W2.cell? ⟨N, 1, none⟩ = some (.int .i64 t.off) := cell_of_box hG2 rfl
        have HB2 := Lib.hid (HB.out.trans (hb2.mono hsz))
        have HRD2 := Lib.hid (show RdTi W2 w.heap.size _ l from Rd.below (Rd.below HRD.out HB.out) (hb2.mono hsz))
        rw [hW2, hN]
        clear q0 q1 hW2 hb2 hG2
        cases k with
        | zero =>
          rw [tiersFrom_zero hx] at hek
          have HST := Lib.hid hek
          clear hek hx hte
          by_cases j0 : t.lo < 0
          · have hez : e0 = 11 := by rw [← HST.out, if_pos (by omega)]
            have hrz : r = (0, 11) := by rw [← HR.out, hez]; rfl
            subst hrz
            clear hez
            go_quiet (fail)
            go_wp2_with fail
            go_ret2
            exact ⟨rfl, below_drewNn HB2.out _⟩
          · have i0 := Int.not_lt.1 j0
            have dj0 : decide (t.lo < 0) = false := decide_eq_false j0
            clear j0
            by_cases j1 : 1000000000000000 < t.lo
            · have hez : e0 = 9 := by rw [← HST.out, if_neg (by omega), if_pos (by omega)]
              have hrz : r = (0, 9) := by rw [← HR.out, hez]; rfl
              subst hrz
              clear hez
              go_quiet (fail)
              go_wp2_with fail
              go_ret2
              exact ⟨rfl, below_drewNn HB2.out _⟩
            · have i1 := Int.not_lt.1 j1
              skip
              clear j1
              by_cases j2 : t.off < 0
              · have hez : e0 = 9 := by rw [← HST.out, if_neg (by omega), if_pos (by omega)]
                have hrz : r = (0, 9) := by rw [← HR.out, hez]; rfl
                subst hrz
                clear hez
                go_quiet (fail)
                go_wp2_with fail
                go_ret2
                exact ⟨rfl, below_drewNn HB2.out _⟩
              · have i2 := Int.not_lt.1 j2
                skip
                clear j2
                by_cases j3 : 1000 < t.off
                · have hez : e0 = 9 := by rw [← HST.out, if_neg (by omega), if_pos (by omega)]
                  have hrz : r = (0, 9) := by rw [← HR.out, hez]; rfl
                  subst hrz
                  clear hez
                  go_quiet (fail)
                  go_wp2_with fail
                  go_ret2
                  exact ⟨rfl, below_drewNn HB2.out _⟩
                · have i3 := Int.not_lt.1 j3
                  skip
                  clear j3
                  have HN := Lib.hid (show tiersFrom l (0 + 1) = e0 by have h9 := HST.out; rw [if_neg (by omega), if_neg (by omega)] at h9; exact h9)
                  go_quiet (fail)
                  go_wp2_with fail
                  exact ⟨⟨0 + 1, by omega, by go_num, HN.out, below_drewNn HB2.out _⟩, by simp [intOf]; omega⟩
        | succ k =>
          have hu : l[k]? = some l[k] := List.getElem?_eq_getElem (by omega)
          obtain ⟨m, hme⟩ : ∃ m, l[k] = m := ⟨_, rfl⟩
          rw [hme] at hu
          rw [tiersFrom_at hx hu] at hek
          obtain ⟨b', off', hA, _, d0, _⟩ := RdTi.at_ HRD2.out hu
          injection hA with hA
          injection hA with e1 e2
          subst e1 e2
          have HST := Lib.hid hek
          have f0 : (0 : Int) ≤ (k : Int) := by omega
          have f1 : (k : Int) < (l.length : Int) := by omega
          have f2 : ((k : Int) + 1) < (l.length : Int) := by omega
          clear hek hx hte hu hme
          by_cases j0 : t.lo < 0
          · have hez : e0 = 11 := by rw [← HST.out, if_pos (by omega)]
            have hrz : r = (0, 11) := by rw [← HR.out, hez]; rfl
            subst hrz
            clear hez
            go_quiet (fail)
            go_wp2_with fail
            go_ret2
            exact ⟨rfl, below_drewNn HB2.out _⟩
          · have i0 := Int.not_lt.1 j0
            have dj0 : decide (t.lo < 0) = false := decide_eq_false j0
            clear j0
            by_cases j9 : t.lo ≤ m.lo
            · have hez : e0 = 11 := by rw [← HST.out, if_pos (by omega)]
              have hrz : r = (0, 11) := by rw [← HR.out, hez]; rfl
              subst hrz
              clear hez
              go_quiet (fail)
              go_wp2_with fail
              go_ret2
              exact ⟨rfl, below_drewNn HB2.out _⟩
            · have i1 := Int.not_le.1 j9
              have dj9 : decide (t.lo ≤ m.lo) = false := decide_eq_false j9
              clear j9
              by_cases j1 : 1000000000000000 < t.lo
              · have hez : e0 = 9 := by rw [← HST.out, if_neg (by omega), if_pos (by omega)]
                have hrz : r = (0, 9) := by rw [← HR.out, hez]; rfl
                subst hrz
                clear hez
                go_quiet (fail)
                go_wp2_with fail
                go_ret2
                exact ⟨rfl, below_drewNn HB2.out _⟩
              · have i2 := Int.not_lt.1 j1
                skip
                clear j1
                by_cases j2 : t.off < 0
                · have hez : e0 = 9 := by rw [← HST.out, if_neg (by omega), if_pos (by omega)]
                  have hrz : r = (0, 9) := by rw [← HR.out, hez]; rfl
                  subst hrz
                  clear hez
                  go_quiet (fail)
                  go_wp2_with fail
                  go_ret2
                  exact ⟨rfl, below_drewNn HB2.out _⟩
                · have i3 := Int.not_lt.1 j2
                  skip
                  clear j2
                  by_cases j3 : 1000 < t.off
                  · have hez : e0 = 9 := by rw [← HST.out, if_neg (by omega), if_pos (by omega)]
                    have hrz : r = (0, 9) := by rw [← HR.out, hez]; rfl
                    subst hrz
                    clear hez
                    go_quiet (fail)
                    go_wp2_with fail
                    go_ret2
                    exact ⟨rfl, below_drewNn HB2.out _⟩
                  · have i4 := Int.not_lt.1 j3
                    skip
                    clear j3
                    have HN := Lib.hid (show tiersFrom l (k + 1 + 1) = e0 by have h9 := HST.out; rw [if_neg (by omega), if_neg (by omega)] at h9; exact h9)
                    go_quiet (fail)
                    go_wp2_with fail
                    exact ⟨⟨k + 1 + 1, by omega, by go_num, HN.out, below_drewNn HB2.out _⟩, by simp [intOf]; omega⟩
      · have hez : e0 = 0 := by rw [← hek, tiersFrom_end hlt]
        subst hez
        have HR2 := Lib.hid (show (if total < 0 ∨ 1000000000000000 < total then (0, 9) else (total * offL total l 0 / 1000, 0)) = r by have h9 := HR.out; rw [if_neg (by simp)] at h9; exact h9)
        have HOK := Lib.hid (show ∀ (i : Nat) (t : Ti), l[i]? = some t → 0 ≤ t.off ∧ t.off ≤ 1000 from fun i t ht => tiers_ok _ 0 (Nat.le_refl _) HE0.out i t (Nat.zero_le _) ht)
        clear hek HR hb
        by_cases g1 : total < 0
        · have hrz : r = (0, 9) := by rw [← HR2.out, if_pos (.inl g1)]
          subst hrz
          clear HR2
          go_wp2_with fail
          go_ret2
          exact ⟨rfl, HB.out⟩
        · by_cases g2 : 1000000000000000 < total
          · have hrz : r = (0, 9) := by rw [← HR2.out, if_pos (.inr g2)]
            subst hrz
            clear HR2
            go_wp2_with fail
            go_ret2
            exact ⟨rfl, HB.out⟩
          · have k1 := Int.not_lt.1 g1
            have k2 := Int.not_lt.1 g2
            obtain ⟨F, hF⟩ : ∃ F, offL total l 0 = F := ⟨_, rfl⟩
            have HR3 := Lib.hid (show (total * F / 1000, (0 : Int)) = r by have h9 := HR2.out; rw [if_neg (by omega), hF] at h9; exact h9)
            have HF := Lib.hid hF
            clear HR2 g1 g2 hF
            go_wp2_with fail
            go_loopw [61, 8] (fun i o wq => ∃ (j : Nat) (oo : Int), j ≤ l.length ∧ i = .int .i64 j ∧ o = .int .i64 oo ∧ 0 ≤ oo ∧ oo ≤ 1000 ∧ offL total (l.drop j) oo = F ∧ Below w.heap.size w wq) (fun i _ _ => l.length - (intOf i).toNat)
            case atStart => exact ⟨0, 0, by omega, rfl, rfl, by omega, by omega, HF.out, HB.out⟩
            case round =>
              obtain ⟨j, oo, hj, rfl, rfl, o1, o2, hof, hbq⟩ := hrel
              have HBQ := Lib.hid hbq
              have hszq := hbq.size
              by_cases hjl : j < l.length
              · have hx : l[j]? = some l[j] := List.getElem?_eq_getElem hjl
                obtain ⟨t, hte⟩ : ∃ t, l[j] = t := ⟨_, rfl⟩
                rw [hte] at hx
                obtain ⟨b, off, rfl, hbl, q0, q1⟩ := RdTi.at_ (Rd.below HRD.out hbq : RdTi _ _ _ _) hx
                have ho := HOK.out j t hx
                obtain ⟨o3, o4⟩ := ho
                have HST := Lib.hid (offL_step hx hof)
                clear hx hte hof hbq
                by_cases ht : t.lo ≤ total
                · have HN := Lib.hid (show offL total (l.drop (j + 1)) t.off = F by have h9 := HST.out; rw [if_pos ht] at h9; exact h9)
                  go_wp2_with fail
                  exact ⟨⟨j + 1, t.off, by omega, by go_num, rfl, o3, o4, HN.out, HBQ.out.alloc hszq _⟩, by simp [intOf]; omega⟩
                · have HN := Lib.hid (show offL total (l.drop (j + 1)) oo = F by have h9 := HST.out; rw [if_neg ht] at h9; exact h9)
                  go_wp2_with fail
                  exact ⟨⟨j + 1, oo, by omega, by go_num, rfl, o1, o2, HN.out, HBQ.out.alloc hszq _⟩, by simp [intOf]; omega⟩
              · have hF : oo = F := by
                  rw [List.drop_eq_nil_of_le (by omega)] at hof
                  exact hof
                subst hF
                have bm := mul_bd (a := total) (b := oo) (x := 1000000000000000) (y := 1000) k1 k2 o1 o2
                obtain ⟨z, hz⟩ : ∃ z, total * oo = z := ⟨_, rfl⟩
                rw [hz] at bm
                obtain ⟨bm1, bm2⟩ := bm
                have t1 : z.tdiv 1000 = z / 1000 := Int.tdiv_eq_ediv_of_nonneg bm1
                have hrz : r = (z / 1000, 0) := by rw [← HR3.out, hz]
                subst hrz
                clear hof hbq HR3
                go_wp2_with fail
                go_ret2
                exact ⟨rfl, HBQ.out⟩


set_option maxRecDepth 100000 in
set_option maxHeartbeats 1000000 in
theorem refDiscount_any (l : List Ti) (v : Value) (total : Int) (w : World) (hrd : RdTi w w.heap.size v l) :
    Calls Tryd.prog 15 #[v, .int .i64 total] w (AmtPost (discountP l total) w) := by
  obtain ⟨A, c, rfl, hc, hml⟩ := hrd.form
  obtain ⟨r, hr⟩ : ∃ r, discountP l total = r := ⟨_, rfl⟩
  rw [hr]
  unfold maxLen at hml
  unfold discountP at hr
  by_cases h8 : 8 < l.length
  · have hrz : r = (0, 4) := by rw [← hr, if_pos h8]
    subst hrz
    clear hr hrd
    go_enter Tryd.func15, Tryd.ntmps15
    go_wp2_with fail
    go_ret2
    exact ⟨rfl, Below.refl _ _⟩
  · rw [if_neg h8] at hr
    obtain ⟨e0, he0⟩ : ∃ e0, tiersFrom l 0 = e0 := ⟨_, rfl⟩
    rw [he0] at hr
    have HE0 := Lib.hid he0
    have HR := Lib.hid hr
    have HRD := Lib.hid hrd
    clear hr he0 hrd
    go_enter Tryd.func15, Tryd.ntmps15
    go_wp2_with fail
    go_loopw [6] (fun i wr => ∃ k : Nat, k ≤ l.length ∧ i = .int .i64 k ∧ tiersFrom l k = e0 ∧ Below w.heap.size w wr) (fun i _ => l.length - (intOf i).toNat)
    case atStart => exact ⟨0, by omega, rfl, HE0.out, Below.refl _ _⟩
    case round =>
      obtain ⟨k, hk, rfl, hek, hb⟩ := hrel
      have HB := Lib.hid hb
      have hsz := hb.size
      by_cases hlt : k < l.length
      · have hx : l[k]? = some l[k] := List.getElem?_eq_getElem hlt
        obtain ⟨t, hte⟩ : ∃ t, l[k] = t := ⟨_, rfl⟩
        rw [hte] at hx
        obtain ⟨b, off, rfl, hbl, q0, q1⟩ := RdTi.at_ (Rd.below HRD.out hb : RdTi _ _ _ _) hx
        have HB2 := Lib.hid hb
        have HRD2 := Lib.hid (show RdTi wr w.heap.size _ l from Rd.below HRD.out hb)
        clear hb
        cases k with
        | zero =>
          rw [tiersFrom_zero hx] at hek
          have HST := Lib.hid hek
          clear hek hx hte
          rw [Nat.zero_mul, Nat.add_zero] at q0 q1
          by_cases j0 : t.lo < 0
          · have hez : e0 = 11 := by rw [← HST.out, if_pos (by omega)]
            have hrz : r = (0, 11) := by rw [← HR.out, hez]; rfl
            subst hrz
            clear hez
            go_wp2_with fail
            go_quiet (fail)
            go_wp2_with fail
            go_ret2
            exact ⟨rfl, below_drewNn HB2.out _⟩
          · have i0 := Int.not_lt.1 j0
            have dj0 : decide (t.lo < 0) = false := decide_eq_false j0
            clear j0
            by_cases j1 : 1000000000000000 < t.lo
            · have hez : e0 = 9 := by rw [← HST.out, if_neg (by omega), if_pos (by omega)]
              have hrz : r = (0, 9) := by rw [← HR.out, hez]; rfl
              subst hrz
              clear hez
              go_wp2_with fail
              go_quiet (fail)
              go_wp2_with fail
              go_ret2
              exact ⟨rfl, below_drewNn HB2.out _⟩
            · have i1 := Int.not_lt.1 j1
              skip
              clear j1
              by_cases j2 : t.off < 0
              · have hez : e0 = 9 := by rw [← HST.out, if_neg (by omega), if_pos (by omega)]
                have hrz : r = (0, 9) := by rw [← HR.out, hez]; rfl
                subst hrz
                clear hez
                go_wp2_with fail
                go_quiet (fail)
                go_wp2_with fail
                go_ret2
                exact ⟨rfl, below_drewNn HB2.out _⟩
              · have i2 := Int.not_lt.1 j2
                skip
                clear j2
                by_cases j3 : 1000 < t.off
                · have hez : e0 = 9 := by rw [← HST.out, if_neg (by omega), if_pos (by omega)]
                  have hrz : r = (0, 9) := by rw [← HR.out, hez]; rfl
                  subst hrz
                  clear hez
                  go_wp2_with fail
                  go_quiet (fail)
                  go_wp2_with fail
                  go_ret2
                  exact ⟨rfl, below_drewNn HB2.out _⟩
                · have i3 := Int.not_lt.1 j3
                  skip
                  clear j3
                  have HN := Lib.hid (show tiersFrom l (0 + 1) = e0 by have h9 := HST.out; rw [if_neg (by omega), if_neg (by omega)] at h9; exact h9)
                  go_wp2_with fail
                  go_quiet (fail)
                  go_wp2_with fail
                  exact ⟨⟨0 + 1, by omega, by go_num, HN.out, below_drewNn HB2.out _⟩, by simp [intOf]; omega⟩
        | succ k =>
          have hu : l[k]? = some l[k] := List.getElem?_eq_getElem (by omega)
          obtain ⟨m, hme⟩ : ∃ m, l[k] = m := ⟨_, rfl⟩
          rw [hme] at hu
          rw [tiersFrom_at hx hu] at hek
          obtain ⟨b', off', hA, _, d0, _⟩ := RdTi.at_ HRD2.out hu
          injection hA with hA
          injection hA with e1 e2
          subst e1 e2
          have HST := Lib.hid hek
          have f0 : (0 : Int) ≤ (k : Int) := by omega
          have f1 : (k : Int) < (l.length : Int) := by omega
          have f2 : ((k : Int) + 1) < (l.length : Int) := by omega
          clear hek hx hte hu hme
          by_cases j0 : t.lo < 0
          · have hez : e0 = 11 := by rw [← HST.out, if_pos (by omega)]
            have hrz : r = (0, 11) := by rw [← HR.out, hez]; rfl
            subst hrz
            clear hez
            go_wp2_with fail
            go_quiet (fail)
            go_wp2_with fail
            go_ret2
            exact ⟨rfl, below_drewNn HB2.out _⟩
          · have i0 := Int.not_lt.1 j0
            have dj0 : decide (t.lo < 0) = false := decide_eq_false j0
            clear j0
            by_cases j9 : t.lo ≤ m.lo
            · have hez : e0 = 11 := by rw [← HST.out, if_pos (by omega)]
              have hrz : r = (0, 11) := by rw [← HR.out, hez]; rfl
              subst hrz
              clear hez
              go_wp2_with fail
              go_quiet (fail)
              go_wp2_with fail
              go_ret2
              exact ⟨rfl, below_drewNn HB2.out _⟩
            · have i1 := Int.not_le.1 j9
              have dj9 : decide (t.lo ≤ m.lo) = false := decide_eq_false j9
              clear j9
              by_cases j1 : 1000000000000000 < t.lo
              · have hez : e0 = 9 := by rw [← HST.out, if_neg (by omega), if_pos (by omega)]
                have hrz : r = (0, 9) := by rw [← HR.out, hez]; rfl
                subst hrz
                clear hez
                go_wp2_with fail
                go_quiet (fail)
                go_wp2_with fail
                go_ret2
                exact ⟨rfl, below_drewNn HB2.out _⟩
              · have i2 := Int.not_lt.1 j1
                skip
                clear j1
                by_cases j2 : t.off < 0
                · have hez : e0 = 9 := by rw [← HST.out, if_neg (by omega), if_pos (by omega)]
                  have hrz : r = (0, 9) := by rw [← HR.out, hez]; rfl
                  subst hrz
                  clear hez
                  go_wp2_with fail
                  go_quiet (fail)
                  go_wp2_with fail
                  go_ret2
                  exact ⟨rfl, below_drewNn HB2.out _⟩
                · have i3 := Int.not_lt.1 j2
                  skip
                  clear j2
                  by_cases j3 : 1000 < t.off
                  · have hez : e0 = 9 := by rw [← HST.out, if_neg (by omega), if_pos (by omega)]
                    have hrz : r = (0, 9) := by rw [← HR.out, hez]; rfl
                    subst hrz
                    clear hez
                    go_wp2_with fail
                    go_quiet (fail)
                    go_wp2_with fail
                    go_ret2
                    exact ⟨rfl, below_drewNn HB2.out _⟩
                  · have i4 := Int.not_lt.1 j3
                    skip
                    clear j3
                    have HN := Lib.hid (show tiersFrom l (k + 1 + 1) = e0 by have h9 := HST.out; rw [if_neg (by omega), if_neg (by omega)] at h9; exact h9)
                    go_wp2_with fail
                    go_quiet (fail)
                    go_wp2_with fail
                    exact ⟨⟨k + 1 + 1, by omega, by go_num, HN.out, below_drewNn HB2.out _⟩, by simp [intOf]; omega⟩
      · have hez : e0 = 0 := by rw [← hek, tiersFrom_end hlt]
        subst hez
        have HR2 := Lib.hid (show (if total < 0 ∨ 1000000000000000 < total then (0, 9) else (total * offL total l 0 / 1000, 0)) = r by have h9 := HR.out; rw [if_neg (by simp)] at h9; exact h9)
        have HOK := Lib.hid (show ∀ (i : Nat) (t : Ti), l[i]? = some t → 0 ≤ t.off ∧ t.off ≤ 1000 from fun i t ht => tiers_ok _ 0 (Nat.le_refl _) HE0.out i t (Nat.zero_le _) ht)
        clear hek HR hb
        by_cases g1 : total < 0
        · have hrz : r = (0, 9) := by rw [← HR2.out, if_pos (.inl g1)]
          subst hrz
          clear HR2
          go_wp2_with fail
          go_ret2
          exact ⟨rfl, HB.out⟩
        · by_cases g2 : 1000000000000000 < total
          · have hrz : r = (0, 9) := by rw [← HR2.out, if_pos (.inr g2)]
            subst hrz
            clear HR2
            go_wp2_with fail
            go_ret2
            exact ⟨rfl, HB.out⟩
          · have k1 := Int.not_lt.1 g1
            have k2 := Int.not_lt.1 g2
            obtain ⟨F, hF⟩ : ∃ F, offL total l 0 = F := ⟨_, rfl⟩
            have HR3 := Lib.hid (show (total * F / 1000, (0 : Int)) = r by have h9 := HR2.out; rw [if_neg (by omega), hF] at h9; exact h9)
            have HF := Lib.hid hF
            clear HR2 g1 g2 hF
            go_wp2_with fail
            go_loopw [8, 7] (fun i o wq => ∃ (j : Nat) (oo : Int), j ≤ l.length ∧ i = .int .i64 j ∧ o = .int .i64 oo ∧ 0 ≤ oo ∧ oo ≤ 1000 ∧ offL total (l.drop j) oo = F ∧ Below w.heap.size w wq) (fun i _ _ => l.length - (intOf i).toNat)
            case atStart => exact ⟨0, 0, by omega, rfl, rfl, by omega, by omega, HF.out, HB.out⟩
            case round =>
              obtain ⟨j, oo, hj, rfl, rfl, o1, o2, hof, hbq⟩ := hrel
              have HBQ := Lib.hid hbq
              have hszq := hbq.size
              by_cases hjl : j < l.length
              · have hx : l[j]? = some l[j] := List.getElem?_eq_getElem hjl
                obtain ⟨t, hte⟩ : ∃ t, l[j] = t := ⟨_, rfl⟩
                rw [hte] at hx
                obtain ⟨b, off, rfl, hbl, q0, q1⟩ := RdTi.at_ (Rd.below HRD.out hbq : RdTi _ _ _ _) hx
                have ho := HOK.out j t hx
                obtain ⟨o3, o4⟩ := ho
                have HST := Lib.hid (offL_step hx hof)
                clear hx hte hof hbq
                by_cases ht : t.lo ≤ total
                · have HN := Lib.hid (show offL total (l.drop (j + 1)) t.off = F by have h9 := HST.out; rw [if_pos ht] at h9; exact h9)
                  go_wp2_with fail
                  exact ⟨⟨j + 1, t.off, by omega, by go_num, rfl, o3, o4, HN.out, HBQ.out⟩, by simp [intOf]; omega⟩
                · have HN := Lib.hid (show offL total (l.drop (j + 1)) oo = F by have h9 := HST.out; rw [if_neg ht] at h9; exact h9)
                  go_wp2_with fail
                  exact ⟨⟨j + 1, oo, by omega, by go_num, rfl, o1, o2, HN.out, HBQ.out⟩, by simp [intOf]; omega⟩
              · have hF : oo = F := by
                  rw [List.drop_eq_nil_of_le (by omega)] at hof
                  exact hof
                subst hF
                have bm := mul_bd (a := total) (b := oo) (x := 1000000000000000) (y := 1000) k1 k2 o1 o2
                obtain ⟨z, hz⟩ : ∃ z, total * oo = z := ⟨_, rfl⟩
                rw [hz] at bm
                obtain ⟨bm1, bm2⟩ := bm
                have t1 : z.tdiv 1000 = z / 1000 := Int.tdiv_eq_ediv_of_nonneg bm1
                have hrz : r = (z / 1000, 0) := by rw [← HR3.out, hz]
                subst hrz
                clear hof hbq HR3
                go_wp2_with fail
                go_ret2
                exact ⟨rfl, HBQ.out⟩


end Go.Proofs.YtdbkdneolcgfjaaDoor
