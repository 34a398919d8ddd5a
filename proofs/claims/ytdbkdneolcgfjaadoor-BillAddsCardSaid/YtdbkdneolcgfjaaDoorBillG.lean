/-
  The contracts of bill.Text and sawmillref50.Text.
-/
import Derived.Test.YtdbkdneolcgfjaaDoorBillF
import Derived.Deep.RegionHeld3
namespace Saw
theorem lens_ok {l : List Int} : ∀ (n k : Nat), l.length - k ≤ n → lensFrom l k = 0 → ∀ (i : Nat) (m : Int), k ≤ i → l[i]? = some m → 100 ≤ m ∧ m ≤ 20000 := by
  intro n
  induction n with
  | zero => intro k hk _ i t hi ht; have := (List.getElem?_eq_some_iff.1 ht).1; omega
  | succ n ih =>
    intro k hk h i m hi hm
    have hil := (List.getElem?_eq_some_iff.1 hm).1
    have hkx : l[k]? = some l[k] := List.getElem?_eq_getElem (by omega)
    rw [lensFrom_at hkx] at h
    split at h
    · cases h
    · rename_i h1
      split at h
      · cases h
      · by_cases hik : i = k
        · subst hik
          rw [hkx] at hm
          injection hm with hm
          subst hm
          omega
        · exact ih (k + 1) (by omega) h i m (by omega) hm
theorem checkNum_lens {x : Pr} (h : checkNumP x = 0) : ∀ n ∈ x.lens, 100 ≤ n ∧ n ≤ 20000 := by
  have hl : lensFrom x.lens 0 = 0 := by
    unfold checkNumP at h
    split at h
    · cases h
    · split at h
      · cases h
      · split at h
        · cases h
        · unfold listsP at h
          split at h
          · cases h
          · split at h
            · cases h
            · split at h
              · cases h
              · split at h
                · rename_i hne; exact absurd h hne
                · rename_i hne; simpa using hne
  intro n hn
  obtain ⟨i, hi, rfl⟩ := List.getElem_of_mem hn
  exact lens_ok _ 0 (Nat.le_refl _) hl i _ (Nat.zero_le _) (List.getElem?_eq_getElem hi)
/-- What is known of an item that has an amount. -/
theorem amount_ok {c : List Pr} {i : It} (h : (amountP c i).2 = 0) : ∃ (k : Nat) (x : Pr), i.product = k ∧ c[k]? = some x ∧ isNameP x.name = true ∧ 100 ≤ i.length ∧ i.length ≤ 20000 ∧ 0 ≤ i.count ∧ i.count ≤ 200 := by
  unfold amountP at h
  split at h
  · rename_i hc; exact absurd h hc
  · rename_i hc
    unfold amountOk at h
    split at h
    · cases h
    · rename_i h1
      split at h
      · cases h
      · rename_i h2
        split at h
        · cases h
        · rename_i h3
          have hk : i.product.toNat < c.length := by omega
          have hx : c[i.product.toNat]? = some c[i.product.toNat] := List.getElem?_eq_getElem hk
          have hg : c.getD i.product.toNat Pr.zero = c[i.product.toNat] := by rw [List.getD_eq_getElem?_getD, hx]; rfl
          rw [hg] at h2
          have hch := (checkPr_all (by simpa using hc)).2 _ _ hx
          have hln := checkNum_lens hch.2 i.length (by simpa using h2)
          exact ⟨i.product.toNat, _, by omega, hx, hch.1, hln.1, hln.2, by omega, by omega⟩
/-- The lines of the first items. -/
def segP (c : List Pr) (l : List It) (am : List Int) (k : Nat) : List UInt8 := ((l.zip am).take k).flatMap fun p => itemLine c p.1 p.2
theorem segP_succ {c : List Pr} {l : List It} {am : List Int} {k : Nat} {i : It} {a : Int} (hi : l[k]? = some i) (ha : am[k]? = some a) : segP c l am (k + 1) = segP c l am k ++ itemLine c i a := by
  have hz : (l.zip am)[k]? = some (i, a) := by rw [List.getElem?_zip_eq_some]; exact ⟨hi, ha⟩
  rw [segP, List.take_add_one, hz, List.flatMap_append, segP]
  simp
theorem itemLine_len {c : List Pr} {i : It} {a : Int} (h : (amountP c i).2 = 0) (ha : 0 ≤ a ∧ a ≤ 1500000000000) : (itemLine c i a).length ≤ 83 := by
  obtain ⟨k, x, hk, hx, hn, h1, h2, h3, h4⟩ := amount_ok h
  have hg : c.getD i.product.toNat Pr.zero = x := by rw [hk, Int.toNat_natCast, List.getD_eq_getElem?_getD, hx]; rfl
  rw [itemLine, hg]
  have := line_len (wd := x.name) (ns := [i.length, i.count, a]) (by
    intro n hn
    simp only [List.mem_cons, List.not_mem_nil, or_false] at hn
    omega)
  have h9 := (isNameP_len hn).2
  simp only [List.length_cons, List.length_nil] at this
  omega
theorem segP_len {c : List Pr} {l : List It} {am : List Int} (h : ∀ i ∈ l, (amountP c i).2 = 0) (ha : ∀ a ∈ am, 0 ≤ a ∧ a ≤ 1500000000000) : ∀ k, (segP c l am k).length ≤ k * 83
  | 0 => by simp [segP]
  | k + 1 => by
    have ih := segP_len h ha k
    rw [segP, List.take_add_one, List.flatMap_append, List.length_append, ← segP]
    cases hz : (l.zip am)[k]? with
    | none => simp; omega
    | some p =>
      obtain ⟨h1, h2⟩ := List.getElem?_zip_eq_some.1 hz
      have := itemLine_len (c := c) (i := p.1) (a := p.2) (h _ (List.mem_of_getElem? h1)) (ha _ (List.mem_of_getElem? h2))
      simp only [Option.toList_some, List.flatMap_cons, List.flatMap_nil, List.append_nil]
      omega
/-- The text of an invoice, out of its sums. -/
theorem text_of {c : List Pr} {l : List It} {t : List Ti} {am : List Int} {s d e : Int} (h : sumsP c l t = (am, s, d, e)) : textP c l t = if e ≠ 0 then ([], e) else (segP c l am l.length ++ lineP discountW [d] ++ lineP totalW [s - d], 0) := by
  unfold textP
  rw [h]
  simp only
  split
  · rfl
  · rw [itemLines, segP, List.take_of_length_le]
    rw [List.length_zip]
    omega
theorem sums_ok {c : List Pr} {l : List It} {t : List Ti} {am : List Int} {s d : Int} (h : sumsP c l t = (am, s, d, 0)) : sumP c l = (am, s, 0) ∧ discountP t s = (d, 0) ∧ (∀ i ∈ l, (amountP c i).2 = 0) ∧ am = l.map (fun i => (amountP c i).1) ∧ l.length ≤ 32 := by
  unfold sumsP at h
  split at h
  · rename_i h1; exact absurd (congrArg (·.2.2.2) h) h1
  · rename_i h1
    split at h
    · rename_i h2; exact absurd (congrArg (·.2.2.2) h) h2
    · rename_i h2
      simp only [Prod.mk.injEq] at h
      obtain ⟨e1, e2, e3, _⟩ := h
      have e4 : sumP c l = (am, s, 0) := by
        rw [← e1, ← e2]
        exact Prod.ext rfl (Prod.ext rfl (by simpa using h1))
      rw [e2] at e3 h2
      refine ⟨e4, Prod.ext e3 (by simpa using h2), ?_⟩
      unfold sumP at e4
      split at e4
      · cases (congrArg (·.2.2) e4 : (4 : Int) = 0)
      · obtain ⟨k1, k2, _, _⟩ := sumL_ok l [] am 0 s e4
        exact ⟨k1, by simpa using k2, by omega⟩
end Saw
namespace Go.Proofs.YtdbkdneolcgfjaaDoor
open Go.RowKit Saw Go.Sort

theorem below_drewB {w w' : World} (h : Below w.drew.heap.size w.drew w') : Below w.heap.size w w' := ⟨h.os, h.tape, h.output, h.size, h.block⟩
def TextPost (r : List UInt8 × Int) (w : World) (e : Ending) (w' : World) : Prop := e = .returned (.tuple #[.string (str r.1), .int .i64 r.2]) ∧ Below w.heap.size w w'

set_option maxRecDepth 100000 in
set_option maxHeartbeats 1000000 in
theorem text_any (c : List Pr) (l : List It) (t : List Ti) (vc vl vt : Value) (w : World) (hc : RdPr w w.heap.size vc c) (hnm : ∀ x ∈ c, x.name.length ≤ 1000000) (hl : RdIt w w.heap.size vl l) (ht : RdTi w w.heap.size vt t) (hp : Pow w) (hpg : 0 < w.heap.size) :
    Calls Tryd.prog 20 #[vc, vl, vt] w (TextPost (textP c l t) w) := by
  obtain ⟨Ac, cc, rfl, _, _⟩ := hc.form
  obtain ⟨Al, cl, rfl, hcl, hml⟩ := hl.form
  unfold maxLen at hml
  obtain ⟨b1, b2, b3, b4⟩ := sums_bd c l t
  obtain ⟨am, s, d, e, hs⟩ : ∃ am s d e, sumsP c l t = (am, s, d, e) := ⟨_, _, _, _, rfl⟩
  rw [hs] at b1 b2 b3 b4
  simp only at b1 b2 b3 b4
  obtain ⟨r, hr⟩ : ∃ r, textP c l t = r := ⟨_, rfl⟩
  rw [hr]
  rw [text_of hs] at hr
  have HR := Lib.hid hr
  have HS := Lib.hid hs
  have H1 := Lib.hid hc
  have H2 := Lib.hid hnm
  have H3 := Lib.hid hl
  have H4 := Lib.hid ht
  have HP := Lib.hid hp
  clear hr hs hc hnm hl ht hp
  go_enter Tryd.func20, Tryd.ntmps20
  go_wp2_with fail
  refine (sums_any c l t _ _ _ _ H1.out H2.out H3.out H4.out).mono ?_
  rintro e' w1 ⟨v, he, hown, hb⟩
  rw [HS.out] at he hown
  subst he
  have HB := Lib.hid hb
  have hsz := hb.size
  have HAM := Lib.hid (show RdI w1 w1.heap.size v am from Rd.of_own hown)
  clear hb hown
  by_cases hz : e = 0
  · subst hz
    obtain ⟨_, _, hok, ham, hl32⟩ := sums_ok HS.out
    have HAL := Lib.hid (show am.length = l.length by rw [ham, List.length_map])
    have HAB := Lib.hid (show ∀ a ∈ am, 0 ≤ a ∧ a ≤ 1500000000000 from fun a ha => by rw [ham] at ha; obtain ⟨i, _, rfl⟩ := List.mem_map.1 ha; exact amount_bd c i)
    have HOK := Lib.hid hok
    have HR2 := Lib.hid (show (segP c l am l.length ++ lineP discountW [d] ++ lineP totalW [s - d], (0 : Int)) = r by have h9 := HR.out; rw [if_neg (by simp)] at h9; exact h9)
    obtain ⟨Av, cv, rfl, hcv, _⟩ := HAM.out.form
    clear hok ham HR
    go_wp2_with fail
    go_loopw [29] (fun i wr => ∃ k : Nat, k ≤ l.length ∧ i = .int .i64 k ∧ IsSb wr w1.heap.size w1.heap.size (segP c l am k) ∧ Below w1.heap.size w1 wr) (fun i _ => l.length - (intOf i).toNat)
    case atStart => exact ⟨0, by omega, rfl, sb_new w1 _ (Nat.le_refl _), (Below.refl _ _).alloc (Nat.le_refl _) _⟩
    case round =>
      obtain ⟨k, hk, rfl, hsb, hbr⟩ := hrel
      have HSB := Lib.hid hsb
      have HBR := Lib.hid hbr
      have hszr := hbr.size
      have HBW := Lib.hid (HB.out.trans (hbr.mono hsz))
      by_cases hlt : k < l.length
      · have hx : l[k]? = some l[k] := List.getElem?_eq_getElem hlt
        obtain ⟨i, hie⟩ : ∃ i, l[k] = i := ⟨_, rfl⟩
        rw [hie] at hx
        have hkm : k < am.length := by have := HAL.out; omega
        have ha : am[k]? = some am[k] := List.getElem?_eq_getElem hkm
        obtain ⟨a, hae⟩ : ∃ a, am[k] = a := ⟨_, rfl⟩
        rw [hae] at ha
        obtain ⟨p, x, hpk, hpx, hpn, i1, i2, i3, i4⟩ := amount_ok (HOK.out i (List.mem_of_getElem? hx))
        obtain ⟨a1, a2⟩ := HAB.out a (List.mem_of_getElem? ha)
        obtain ⟨b, off, rfl, hbl, q0, q1, q2, q3⟩ := RdIt.at_ (Rd.below H3.out HBW.out : RdIt _ _ _ _) hx
        rw [hpk] at q0
        obtain ⟨bc, oc, A1, c1, A2, c2, rfl, hbc, _, _, _, _, n0, _⟩ := RdPr.at_ (H1.out.below HBW.out) hpx
        obtain ⟨ba, oa, rfl, hba, m0⟩ := RdI.at_ (HAM.out.below hbr) ha
        have hpl : p < c.length := (List.getElem?_eq_some_iff.1 hpx).1
        have hgd : c.getD i.product.toNat Pr.zero = x := by rw [hpk, Int.toNat_natCast, List.getD_eq_getElem?_getD, hpx]; rfl
        have HSEG := Lib.hid (segP_succ (c := c) hx ha)
        have HIL := Lib.hid (show itemLine c i a = lineP x.name [i.length, i.count, a] by rw [itemLine, hgd])
        have hnl := (isNameP_len hpn).2
        have f1 : (0 : Int) ≤ (p : Int) := by omega
        have f2 : (p : Int) < (c.length : Int) := by omega
        have f3 : (0 : Int) ≤ (k : Int) := by omega
        have f4 : (k : Int) < (am.length : Int) := by omega
        obtain ⟨acc, hacc⟩ : ∃ acc, segP c l am k = acc := ⟨_, rfl⟩
        have hacl : acc.length ≤ 32 * 83 := by rw [← hacc]; have := segP_len (c := c) HOK.out HAB.out k; omega
        have HSB1 := Lib.hid (show IsSb wr w1.heap.size w1.heap.size acc by rw [← hacc]; exact HSB.out)
        rw [hacc] at HSEG
        clear hacc hgd hpx hx hie ha hae hpn hpk hsb
        go_wp2_with fail
        obtain ⟨N, hN⟩ : ∃ N, wr.heap.size = N := ⟨_, rfl⟩
        obtain ⟨W2, hW2⟩ : ∃ W2, wr.alloc (.cells #[.int .i64 (p : Int), .int .i64 i.length, .int .i64 i.count, .int .i64 i.price] 28) = W2 := ⟨_, rfl⟩
        have hG2 : W2.heap[N]? = some (.cells #[.int .i64 (p : Int), .int .i64 i.length, .int .i64 i.count, .int .i64 i.price] 28 (0, 0)) := by rw [← hW2, ← hN]; exact heap_alloc_last wr _
        have hb2 : Below wr.heap.size wr W2 := by rw [← hW2]; exact (Below.refl _ _).alloc (Nat.le_refl _) _
        have hz2 : W2.heap.size = N + 1 := by rw [← hW2, World.size_alloc, hN]
        have u0 : W2.cell? ⟨N, 0, none⟩ = some (.int .i64 (p : Int)) := cell_of_box hG2 rfl
        have u1 : W2.cell? ⟨N, 1, none⟩ = some (.int .i64 i.length) := cell_of_box hG2 rfl
        have u2 : W2.cell? ⟨N, 2, none⟩ = some (.int .i64 i.count) := cell_of_box hG2 rfl
        have n0' : W2.cell? ⟨bc, oc + p * 7, none⟩ = some (.string (str x.name)) := (hb2.cell (p := ⟨bc, oc + p * 7, none⟩) (by show bc < _; omega)).trans n0
        have m0' : W2.cell? ⟨ba, oa + k, none⟩ = some (.int .i64 a) := (hb2.cell (p := ⟨ba, oa + k, none⟩) (by show ba < _; omega)).trans m0
        have HB2 := Lib.hid (HBR.out.trans (hb2.mono hszr))
        have HSB2 := Lib.hid (HSB1.out.below hb2)
        have HG2 := Lib.hid hG2
        rw [hW2, hN]
        clear hW2 hb2 hG2 q0 q1 q2 q3 n0 m0 hbr
        have HZ2 := Lib.hid hz2
        have hbN : w1.heap.size < N := by have := HSB1.out.lt; omega
        have HS2 : Hid (∀ W, Below W2.heap.size W2 W → W.cell? ⟨N, 0, none⟩ = some (.int .i64 (p : Int)) ∧ W.cell? ⟨N, 1, none⟩ = some (.int .i64 i.length) ∧ W.cell? ⟨N, 2, none⟩ = some (.int .i64 i.count) ∧ W.cell? ⟨bc, oc + p * 7, none⟩ = some (.string (str x.name)) ∧ W.cell? ⟨ba, oa + k, none⟩ = some (.int .i64 a)) := fun W hW =>
          ⟨(hW.cell (p := ⟨N, 0, none⟩) (by show N < _; omega)).trans u0, (hW.cell (p := ⟨N, 1, none⟩) (by show N < _; omega)).trans u1, (hW.cell (p := ⟨N, 2, none⟩) (by show N < _; omega)).trans u2,
            (hW.cell (p := ⟨bc, oc + p * 7, none⟩) (by show bc < _; omega)).trans n0', (hW.cell (p := ⟨ba, oa + k, none⟩) (by show ba < _; omega)).trans m0'⟩
        have HS3 : Hid (∀ W5 W, Below W2.heap.size W2 W5 → Below w1.heap.size W5 W → OtherB w1.heap.size W5 W → W.cell? ⟨N, 0, none⟩ = some (.int .i64 (p : Int)) ∧ W.cell? ⟨N, 1, none⟩ = some (.int .i64 i.length) ∧ W.cell? ⟨N, 2, none⟩ = some (.int .i64 i.count) ∧ W.cell? ⟨bc, oc + p * 7, none⟩ = some (.string (str x.name)) ∧ W.cell? ⟨ba, oa + k, none⟩ = some (.int .i64 a)) := fun W5 W h5 hb hot => by
          have hg := hot N _ ((h5.block N (by omega)).trans HG2.out) (fun e => by injection e with e; omega) (fun c' fz e => by injection e with e1 e2; exact absurd e2 (by decide))
          obtain ⟨_, _, _, z3, z4⟩ := HS2.out W5 h5
          exact ⟨cell_of_box hg rfl, cell_of_box hg rfl, cell_of_box hg rfl, (hb.cell (p := ⟨bc, oc + p * 7, none⟩) (by show bc < _; omega)).trans z3, (hb.cell (p := ⟨ba, oa + k, none⟩) (by show ba < _; omega)).trans z4⟩
        have HRI3 := Lib.hid (show RdI (W2.alloc (.cells #[.int .i64 i.length, .int .i64 i.count, .int .i64 a] 3)) (W2.alloc (.cells #[.int .i64 i.length, .int .i64 i.count, .int .i64 a] 3)).heap.size (.slice (some ⟨W2.heap.size, 0, none⟩) 3 3) [i.length, i.count, a] from Rd.of_own (ownsRow_new (e := 3) (cs := [.int .i64 i.length, .int .i64 i.count, .int .i64 a]) (Nat.le_refl _) rfl (by decide)))
        have HNB := Lib.hid (show ∀ n ∈ [i.length, i.count, a], -9223372036854775808 ≤ n ∧ n ≤ 9223372036854775807 by
          intro n hn
          simp only [List.mem_cons, List.not_mem_nil, or_false] at hn
          omega)
        have HB3 := Lib.hid (((Below.refl W2.heap.size W2).alloc (Nat.le_refl _) (.cells #[.int .i64 i.length, .int .i64 i.count, .int .i64 a] 3)))
        have HBW2 := Lib.hid (HB.out.trans ((HB2.out.trans (HB3.out.mono (by omega))).mono hsz))
        have HP3 := Lib.hid (show Pow (W2.alloc (.cells #[.int .i64 i.length, .int .i64 i.count, .int .i64 a] 3)) from HP.out.below HBW2.out hpg)
        have HLL := Lib.hid (line_len (wd := x.name) HNB.out)
        have hnl6 : x.name.length ≤ 1000000 := by omega
        have HLN : Hid (Calls Tryd.prog 33 #[.int .i64 0, .string (str x.name), .slice (some ⟨W2.heap.size, 0, none⟩) 3 3] (W2.alloc (.cells #[.int .i64 i.length, .int .i64 i.count, .int .i64 a] 3)).drew fun e w' => e = .returned (.string (str (lineP x.name [i.length, i.count, a]))) ∧ Below (W2.alloc (.cells #[.int .i64 i.length, .int .i64 i.count, .int .i64 a] 3)).heap.size (W2.alloc (.cells #[.int .i64 i.length, .int .i64 i.count, .int .i64 a] 3)) w') :=
          (line_item x.name [i.length, i.count, a] _ (W2.alloc (.cells #[.int .i64 i.length, .int .i64 i.count, .int .i64 a] 3)).drew hnl6 HRI3.out HNB.out (by simp) HP3.out (Nat.lt_of_lt_of_le hpg HBW2.out.size)).mono fun e w' ⟨h1, h2⟩ => ⟨h1, below_drewB h2⟩
        clear hz2 n0' m0' u0 u1 u2
        go_region_held3 (fun W => W.cell? ⟨N, 0, none⟩ = some (.int .i64 (p : Int)) ∧ W.cell? ⟨N, 1, none⟩ = some (.int .i64 i.length) ∧ W.cell? ⟨N, 2, none⟩ = some (.int .i64 i.count) ∧ W.cell? ⟨bc, oc + p * 7, none⟩ = some (.string (str x.name)) ∧ W.cell? ⟨ba, oa + k, none⟩ = some (.int .i64 a))
          (first | exact HS2.out _ (Below.refl _ _).drew | exact HS2.out _ HB3.out.drew | exact HS2.out _ (HB3.out.trans (hb5.mono HB3.out.size)) | exact HS3.out _ _ (HB3.out.trans (hb5.mono HB3.out.size)) hb6 hot6)
          (first
            | (go_at_call 33; refine HLN.out.mono ?_; rintro e w5 ⟨rfl, hb5⟩)
            | (go_at_call 32; refine (sb_write w1.heap.size w1.heap.size acc _ _ ((HSB2.out.below HB3.out).below hb5) (by have := HLL.out; rw [size_str]; simp only [List.length_cons, List.length_nil] at this; omega) (Nat.le_trans (Nat.le_trans (by have := HZ2.out; omega) HB3.out.size) hb5.size)).mono ?_; rintro e w6 ⟨rfl, hsb6, hb6, hot6⟩))
        have HSB6 := Lib.hid hsb6
        have HB6 := Lib.hid (HB2.out.trans ((HB3.out.trans (hb5.mono HB3.out.size)).mono (show w1.heap.size ≤ W2.heap.size by have := HZ2.out; omega)) |>.trans hb6)
        rename_i hheld
        clear hheld hsb6 hb5 hb6 hot6
        go_wp2_with fail
        refine ⟨⟨k + 1, by omega, by go_num, ?_, HB6.out⟩, by simp [intOf]; omega⟩
        have h9 := HSB6.out
        rw [bts_str, ← HIL.out, ← HSEG.out] at h9
        exact h9
      · have hkl : k = l.length := by omega
        have HSBE := Lib.hid (show IsSb wr w1.heap.size w1.heap.size (segP c l am l.length) by rw [← hkl]; exact HSB.out)
        obtain ⟨acc, hacc⟩ : ∃ acc, segP c l am l.length = acc := ⟨_, rfl⟩
        rw [hacc] at HSBE HR2
        have hacl : acc.length ≤ 32 * 83 := by rw [← hacc]; have := segP_len (c := c) HOK.out HAB.out l.length; omega
        obtain ⟨z, hz⟩ : ∃ z, s - d = z := ⟨_, rfl⟩
        rw [hz] at HR2
        have z1 : 0 ≤ z := by omega
        have z2 : z ≤ 48000000000000 := by omega
        clear hkl hacc hsb hbr
        have HX1 := Lib.hid ((Below.refl wr.heap.size wr).alloc (Nat.le_refl _) (.cells #[.int .i64 (d)] 3))
        have HXR1 := Lib.hid (show RdI (wr.alloc (.cells #[.int .i64 d] 3)) (wr.alloc (.cells #[.int .i64 d] 3)).heap.size (.slice (some ⟨wr.heap.size, 0, none⟩) 1 1) [d] from Rd.of_own (ownsRow_new (e := 3) (cs := [.int .i64 (d)]) (Nat.le_refl _) rfl (by decide)))
        have HXB1 := Lib.hid (HB.out.trans ((HBR.out.trans (HX1.out.mono hszr)).mono hsz))
        have HXN1 := Lib.hid (show ∀ n ∈ [d], -9223372036854775808 ≤ n ∧ n ≤ 9223372036854775807 by intro n hn; rw [List.mem_singleton.1 hn]; omega)
        have HXL1 := Lib.hid (line_len (wd := discountW) HXN1.out)
        go_wp2_with fail
        refine (line_discount [d] _ _ HXR1.out HXN1.out (by simp) (HP.out.below HXB1.out hpg) (Nat.lt_of_lt_of_le hpg HXB1.out.size)).mono ?_
        rintro e5 v1 ⟨rfl, hc1⟩
        have HC1 := Lib.hid (HBR.out.trans ((HX1.out.trans (hc1.mono HX1.out.size)).mono hszr))
        have HD1 := Lib.hid ((HSBE.out.below HX1.out).below hc1)
        clear hc1
        go_wp2_with fail
        refine (sb_write w1.heap.size w1.heap.size _ _ _ HD1.out (by have h9 := HXL1.out; have h8 := hacl; rw [size_str]; simp only [List.length_cons, List.length_nil] at h9; have h6 : discountW.length = 8 := rfl; have h5 : totalW.length = 5 := rfl; omega) HC1.out.size).mono ?_
        rintro e6 x1 ⟨rfl, hsb1, hd1, _⟩
        rw [bts_str] at hsb1
        have HSBX1 := Lib.hid hsb1
        have HBX1 := Lib.hid (HC1.out.trans hd1)
        have hszx1 := HBX1.out.size
        clear hsb1 hd1
        have HX2 := Lib.hid ((Below.refl x1.heap.size x1).alloc (Nat.le_refl _) (.cells #[.int .i64 (z)] 3))
        have HXR2 := Lib.hid (show RdI (x1.alloc (.cells #[.int .i64 z] 3)) (x1.alloc (.cells #[.int .i64 z] 3)).heap.size (.slice (some ⟨x1.heap.size, 0, none⟩) 1 1) [z] from Rd.of_own (ownsRow_new (e := 3) (cs := [.int .i64 (z)]) (Nat.le_refl _) rfl (by decide)))
        have HXB2 := Lib.hid (HB.out.trans ((HBX1.out.trans (HX2.out.mono hszx1)).mono hsz))
        have HXN2 := Lib.hid (show ∀ n ∈ [z], -9223372036854775808 ≤ n ∧ n ≤ 9223372036854775807 by intro n hn; rw [List.mem_singleton.1 hn]; omega)
        have HXL2 := Lib.hid (line_len (wd := totalW) HXN2.out)
        go_wp2_with fail
        refine (line_total [z] _ _ HXR2.out HXN2.out (by simp) (HP.out.below HXB2.out hpg) (Nat.lt_of_lt_of_le hpg HXB2.out.size)).mono ?_
        rintro e5 v2 ⟨rfl, hc2⟩
        have HC2 := Lib.hid (HBX1.out.trans ((HX2.out.trans (hc2.mono HX2.out.size)).mono hszx1))
        have HD2 := Lib.hid ((HSBX1.out.below HX2.out).below hc2)
        clear hc2
        go_wp2_with fail
        refine (sb_write w1.heap.size w1.heap.size _ _ _ HD2.out (by have h9 := HXL2.out; have h8 := hacl; rw [size_str]; simp only [List.length_cons, List.length_nil] at h9; have h6 : discountW.length = 8 := rfl; have h5 : totalW.length = 5 := rfl; rw [List.length_append]; have h7 := HXL1.out; simp only [List.length_cons, List.length_nil] at h7; omega) HC2.out.size).mono ?_
        rintro e6 x2 ⟨rfl, hsb2, hd2, _⟩
        rw [bts_str] at hsb2
        have HSBX2 := Lib.hid hsb2
        have HBX2 := Lib.hid (HC2.out.trans hd2)
        have hszx2 := HBX2.out.size
        clear hsb2 hd2
        go_wp2_with fail
        refine (sb_string w1.heap.size w1.heap.size _ _ HSBX2.out hszx2).mono ?_
        rintro e7 w7 ⟨rfl, hb7⟩
        have HB7 := Lib.hid (HB.out.trans ((HBX2.out.trans hb7).mono hsz))
        clear hb7
        have hrz := HR2.out
        subst hrz
        go_wp2_with fail
        go_ret2
        exact ⟨by show Ending.returned (.tuple #[.string (str (acc ++ (lineP discountW [d] ++ lineP totalW [z]))), .int .i64 0]) = _; rw [← List.append_assoc], HB7.out⟩
  · have hzb : (e != 0) = true := by rw [bne_iff_ne]; exact hz
    have hrz : r = ([], e) := by rw [← HR.out, if_pos hz]
    subst hrz
    clear hz HR
    go_wp2_with fail
    go_ret2
    exact ⟨rfl, HB.out⟩

end Go.Proofs.YtdbkdneolcgfjaaDoor
