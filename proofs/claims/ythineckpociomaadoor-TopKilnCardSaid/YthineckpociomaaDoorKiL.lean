/-
  The contracts of charge.steepest and charge.Safe.
-/
import Derived.Test.YthineckpociomaaDoorKiK
namespace Go.Proofs.YthineckpociomaaDoor
open Go.RowKit Saw Go.Sort

theorem steepest_step {l : List (Int × Cl)} {k : Nat} {x : Int × Cl} (h : l[k]? = some x) : steepest (l.take (k + 1)) = if k = 0 then gradP x.2 else max (steepest (l.take k)) (gradP x.2) := by
  cases l with
  | nil => cases h
  | cons y r =>
    cases k with
    | zero => injection h with h; subst h; rfl
    | succ k =>
      have h : r[k]? = some x := h
      rw [if_neg (by omega)]
      show (r.take (k + 1)).foldl _ _ = max ((r.take k).foldl _ _) _
      rw [List.take_add_one, h, List.foldl_append]
      rfl
set_option maxRecDepth 100000 in
set_option maxHeartbeats 4000000 in
theorem steepest_any (W : World) (g : Nat) (sc : Sc) (s : Sp) (sv iv : Value) (k : Ki) (h : KnAt W g sc s sv iv k) (hl : k.items.length ≤ 1024) : Calls Tryd.prog 25 #[.pointer (some ⟨g, 0, none⟩)] W (IntB (steepest k.items) W) := by
  have HK := Lib.hid h
  obtain ⟨its, hits⟩ : ∃ its, k.items = its := ⟨_, rfl⟩
  have HIT : Hid (Calls Tryd.prog 16 #[.pointer (some ⟨g, 0, none⟩)] W (ClonePostI its W)) := Lib.hid (hits ▸ items_any W g sc s sv iv k h hl)
  rw [hits] at hl ⊢
  have HL := Lib.hid hl
  clear h hits
  go_enter Tryd.func25, Tryd.ntmps25
  go_wp2_with fail
  refine HIT.out.mono ?_
  rintro e w1 ⟨A1, c1, rfl, ho, hb⟩
  have HR := Lib.hid (show RdIt w1 w1.heap.size (.slice A1 its.length c1) its from Rd.of_own ho)
  have HB1 := Lib.hid hb
  clear ho hb HIT
  go_wp2_with fail
  go_loopw [3, 10] (fun q i wr => ∃ j : Nat, j ≤ its.length ∧ i = .int .i64 j ∧ q = .int .i64 (steepest (its.take j)) ∧ Below w1.heap.size w1 wr) (fun _ i _ => its.length - (intOf i).toNat)
  case atStart => exact ⟨0, by omega, rfl, by rw [List.take_zero]; rfl, Below.refl _ _⟩
  case round =>
    obtain ⟨j, hj, rfl, rfl, hb⟩ := hrel
    have HB := Lib.hid hb
    have hszr := hb.size
    have hsz1 := HB1.out.size
    obtain ⟨q, hq⟩ : ∃ q, steepest (its.take j) = q := ⟨_, rfl⟩
    rw [hq]
    have HBW := Lib.hid (HB1.out.trans (hb.mono hsz1))
    have HQ := Lib.hid hq
    by_cases hlt : j < its.length
    · have hx : its[j]? = some its[j] := List.getElem?_eq_getElem hlt
      obtain ⟨x, hxe⟩ : ∃ x, its[j] = x := ⟨_, rfl⟩
      rw [hxe] at hx
      obtain ⟨b, off, rfl, hbl, d0, d1, d2, d3⟩ := (HR.out.below hb).at_ hx
      obtain ⟨p, hp⟩ : ∃ p, gradP x.2 = p := ⟨_, rfl⟩
      have HG : Hid (∀ V : World, Calls Tryd.prog 6 #[.agg #[.int .i64 x.2.surf, .int .i64 x.2.core, .int .i64 x.2.stress]] V fun e w' => e = .returned (.int .i64 p) ∧ Below V.heap.size V w') := Lib.hid (fun V => hp ▸ gradient_any x.2 V)
      have HST := Lib.hid (show steepest (its.take (j + 1)) = if j = 0 then p else max q p by rw [steepest_step hx, hp, hq])
      have HB2 := Lib.hid (fun o : Obj => (show Below w1.heap.size w1 (wr.alloc o) from bel_alloc HB.out))
      clear hb hx hxe hq hp
      go_wp2_with fail
      refine (HG.out _).mono ?_
      rintro e w3 ⟨he, hb3⟩
      subst he
      have HB3 := Lib.hid ((HB2.out _).trans (hb3.mono (HB2.out _).size))
      clear hb3
      by_cases h0 : j = 0
      · subst h0
        have HN := Lib.hid (show steepest (its.take (0 + 1)) = p by rw [HST.out, if_pos rfl])
        go_wp2_with fail
        exact ⟨⟨1, by omega, by go_num, by rw [show (1 : Nat) = 0 + 1 from rfl, HN.out], HB3.out⟩, by simp [intOf]; omega⟩
      · have hz : ((j : Int) == 0) = false := by rw [beq_eq_false_iff_ne]; omega
        by_cases hgt : q < p
        · have g1 : decide (q < p) = true := decide_eq_true hgt
          have HN := Lib.hid (show steepest (its.take (j + 1)) = p by rw [HST.out, if_neg h0]; omega)
          go_wp2_with fail
          exact ⟨⟨j + 1, by omega, by go_num, by rw [HN.out], HB3.out⟩, by simp [intOf]; omega⟩
        · have g1 : decide (q < p) = false := decide_eq_false hgt
          have HN := Lib.hid (show steepest (its.take (j + 1)) = q by rw [HST.out, if_neg h0]; omega)
          go_wp2_with fail
          exact ⟨⟨j + 1, by omega, by go_num, by rw [HN.out], HB3.out⟩, by simp [intOf]; omega⟩
    · have HM := Lib.hid (show steepest its = q by rw [← hq, List.take_of_length_le (by omega)])
      clear hb hq
      go_wp2_with fail
      go_ret
      exact ⟨by rw [HM.out]; rfl, HBW.out⟩
/-- The value of a run. -/
def ruV (r : Ru) : Value := .agg #[.int .i64 r.k.ticks, .int .i64 r.k.held, .int .i64 r.k.stage, .int .i64 r.hot.temp, .int .i64 r.hot.dep, .int .i64 r.grad]
def ruO (r : Ru) : Obj := .cells #[.int .i64 r.k.ticks, .int .i64 r.k.held, .int .i64 r.k.stage, .int .i64 r.hot.temp, .int .i64 r.hot.dep, .int .i64 r.grad] 44
set_option maxRecDepth 100000 in
set_option maxHeartbeats 4000000 in
theorem safe_any (r : Ru) (s : Sp) (w : World) : Calls Tryd.prog 10 #[ruV r, .agg #[.string (str s.name), .int .i64 s.green, .int .i64 s.fast, .int .i64 s.slow, .int .i64 s.safe, .int .i64 s.grad, .int .i64 s.crack, .int .i64 s.temp, .int .i64 s.depress, .int .i64 s.density, .int .i64 s.stiff, .int .i64 s.knots, .int .i64 s.shrink]] w fun e w' => e = .returned (.bool (decide (r.hot.temp ≤ s.temp) && decide (r.hot.dep ≤ s.depress) && decide (r.grad ≤ s.grad))) ∧ Below w.heap.size w w' := by
  unfold ruV
  obtain ⟨a, ha⟩ : ∃ a, decide (r.hot.temp ≤ s.temp) = a := ⟨_, rfl⟩
  obtain ⟨b, hb⟩ : ∃ b, decide (r.hot.dep ≤ s.depress) = b := ⟨_, rfl⟩
  obtain ⟨c, hc⟩ : ∃ c, decide (r.grad ≤ s.grad) = c := ⟨_, rfl⟩
  have HR := Lib.hid (show (decide (r.hot.temp ≤ s.temp) && decide (r.hot.dep ≤ s.depress) && decide (r.grad ≤ s.grad)) = (a && b && c) by rw [ha, hb, hc])
  rw [HR.out]
  cases a <;> cases b <;> cases c <;> (
    go_enter Tryd.func10, Tryd.ntmps10
    go_wp2_with fail
    go_ret
    exact ⟨rfl, by repeat (first | exact Below.refl _ _ | apply bel_alloc)⟩)
end Go.Proofs.YthineckpociomaaDoor
