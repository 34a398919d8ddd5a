/-
  The contract of product.Price. (Not built yet: it wants the seat of chapter 19; the loop's slot is to be looked up by ops.sh.)
-/
import Derived.Test.YtokgonpeolppnaaDoorPrF
namespace Go.Proofs.YtokgonpeolppnaaDoor
open Go.RowKit Saw Go.Sort

set_option maxRecDepth 100000 in
set_option maxHeartbeats 400000 in
theorem price_any (x : Pr) (A1 A2 : Option Addr) (c1 c2 : Nat) (n : Int) (w : World) (h1 : RdI w w.heap.size (.slice A1 x.lens.length c1) x.lens) (h2 : RdI w w.heap.size (.slice A2 x.prices.length c2) x.prices) :
    Calls Tryd.prog 18 #[.agg #[.string (str x.name), .int .i64 x.thick, .int .i64 x.width, .int .i64 x.allow, .int .i64 x.wane, .slice A1 x.lens.length c1, .slice A2 x.prices.length c2], .int .i64 n] w (PricePost (priceP x n) w) := by
  obtain ⟨r, hr⟩ : ∃ r, priceP x n = r := ⟨_, rfl⟩
  rw [hr]
  obtain ⟨_, _, _, _, hl1⟩ := h1.form
  obtain ⟨_, _, _, _, hl2⟩ := h2.form
  unfold maxLen at hl1 hl2
  have HR := Lib.hid hr
  have hb0 : Below w.heap.size w (w.alloc (.cells #[.string (str x.name), .int .i64 x.thick, .int .i64 x.width, .int .i64 x.allow, .int .i64 x.wane, .slice A1 x.lens.length c1, .slice A2 x.prices.length c2] 29)) := (Below.refl _ _).alloc (Nat.le_refl _) _
  have HL1 := Lib.hid (h1.below hb0)
  have HP1 := Lib.hid (h2.below hb0)
  have HB := Lib.hid hb0
  clear hr h1 h2 hb0
  go_enter Tryd.func18, Tryd.ntmps18
  go_wp2_with fail
  go_loop [11] (fun i => ∃ k : Nat, k ≤ x.lens.length ∧ i = .int .i64 k ∧ priceL (x.lens.drop k) (x.prices.drop k) n = r) (fun i => x.lens.length - (intOf i).toNat)
  case atStart => exact ⟨0, by omega, rfl, HR.out⟩
  case round =>
    obtain ⟨k, hk, rfl, hrk⟩ := hrel
    by_cases hlt : k < x.lens.length
    · have hx : x.lens[k]? = some x.lens[k] := List.getElem?_eq_getElem hlt
      obtain ⟨m, hm⟩ : ∃ m, x.lens[k] = m := ⟨_, rfl⟩
      rw [hm] at hx
      obtain ⟨b, off, rfl, hbl, d0⟩ := RdI.at_ HL1.out hx
      have HST := Lib.hid (priceL_step hx hrk)
      clear hx hm hrk
      by_cases hmn : m = n
      · subst hmn
        have hmb : (m != m) = false := by rw [bne_eq_false_iff_eq]
        have hrz := HST.out.1 rfl
        by_cases hpk : k < x.prices.length
        · have hp : x.prices[k]? = some x.prices[k] := List.getElem?_eq_getElem hpk
          obtain ⟨p, hpe⟩ : ∃ p, x.prices[k] = p := ⟨_, rfl⟩
          rw [hpe] at hp
          rw [hp] at hrz
          subst hrz
          obtain ⟨b', off', rfl, hbl', d1⟩ := RdI.at_ HP1.out hp
          clear hp hpe HR
          go_wp2_with fail
          go_ret2
          exact ⟨rfl, HB.out⟩
        · rw [List.getElem?_eq_none (by omega)] at hrz
          subst hrz
          clear HR
          go_wp2_with fail
          go_ret2
          exact ⟨rfl, HB.out⟩
      · have HN := Lib.hid (HST.out.2 hmn)
        have hmb : (m != n) = true := by rw [bne_iff_ne]; exact hmn
        clear hmn
        go_wp2_with fail
        exact ⟨⟨k + 1, by omega, by go_num, HN.out⟩, by simp [intOf]; omega⟩
    · have hrn : r = none := by
        rw [List.drop_eq_nil_of_le (by omega)] at hrk
        exact hrk.symm
      subst hrn
      clear hrk HR
      go_wp2_with fail
      go_ret2
      exact ⟨rfl, HB.out⟩

end Go.Proofs.YtokgonpeolppnaaDoor
