/-
  BillSpares walked.
-/
import Derived.Test.YtdbkdneolcgfjaaDoorBillOpen
namespace Saw
theorem offL_snoc (total : Int) (t : Ti) : ∀ (l : List Ti) (o : Int), offL total (l ++ [t]) o = if t.lo ≤ total then t.off else offL total l o
  | [], o => rfl
  | u :: r, o => by rw [List.cons_append, offL, offL, offL_snoc total t r]
theorem tiers_ok2 {l : List Ti} : ∀ (n k : Nat), l.length - k ≤ n → tiersFrom l k = 0 → ∀ (i : Nat) (t : Ti), k ≤ i → l[i]? = some t → 0 ≤ t.lo ∧ t.lo ≤ 1000000000000000 ∧ 0 ≤ t.off ∧ t.off ≤ 1000 := by
  intro n
  induction n with
  | zero => intro k hk _ i t hi ht; have := (List.getElem?_eq_some_iff.1 ht).1; omega
  | succ n ih =>
    intro k hk h i t hi ht
    have hil := (List.getElem?_eq_some_iff.1 ht).1
    have hkx : l[k]? = some l[k] := List.getElem?_eq_getElem (by omega)
    have key : (0 ≤ l[k].lo ∧ l[k].lo ≤ 1000000000000000 ∧ 0 ≤ l[k].off ∧ l[k].off ≤ 1000) ∧ tiersFrom l (k + 1) = 0 := by
      cases k with
      | zero =>
        rw [tiersFrom_zero hkx] at h
        split at h
        · cases h
        · split at h
          · cases h
          · exact ⟨by omega, h⟩
      | succ k =>
        have hku : l[k]? = some l[k] := List.getElem?_eq_getElem (by omega)
        rw [tiersFrom_at hkx hku] at h
        split at h
        · cases h
        · split at h
          · cases h
          · exact ⟨by omega, h⟩
    by_cases hik : i = k
    · subst hik
      rw [hkx] at ht
      injection ht with ht
      subst ht
      exact key.1
    · exact ih (k + 1) (by omega) key.2 i t (by omega) ht
/-- A discount without an error. -/
theorem discount_ok {l : List Ti} {total a : Int} (h : discountP l total = (a, 0)) : (∀ t ∈ l, 0 ≤ t.lo ∧ t.lo ≤ 1000000000000000 ∧ 0 ≤ t.off ∧ t.off ≤ 1000) ∧ 0 ≤ total ∧ total ≤ 1000000000000000 ∧ a = total * offL total l 0 / 1000 := by
  unfold discountP at h
  split at h
  · cases (congrArg (·.2) h : (4 : Int) = 0)
  · split at h
    · rename_i h2; exact absurd (congrArg (·.2) h) h2
    · rename_i h2
      split at h
      · cases (congrArg (·.2) h : (9 : Int) = 0)
      · rename_i h3
        refine ⟨fun t ht => ?_, by omega, by omega, (congrArg (·.1) h).symm⟩
        obtain ⟨i, hi, rfl⟩ := List.getElem_of_mem ht
        exact tiers_ok2 _ 0 (Nat.le_refl _) (by simpa using h2) i _ (Nat.zero_le _) (List.getElem?_eq_getElem hi)
theorem discount_one {t : Ti} {total : Int} (h : 0 ≤ t.lo ∧ t.lo ≤ 1000000000000000 ∧ 0 ≤ t.off ∧ t.off ≤ 1000) : discountP [t] total = if total < 0 ∨ 1000000000000000 < total then (0, 9) else (total * (if t.lo ≤ total then t.off else 0) / 1000, 0) := by
  have ht : tiersFrom [t] 0 = 0 := by
    rw [tiersFrom_zero (l := [t]) (t := t) rfl, if_neg (by omega), if_neg (by omega), tiersFrom_end (by simp)]
  unfold discountP
  rw [if_neg (by simp), ht, if_neg (by simp)]
  rfl
/-- What the loop of the law finds: the last tier that is reached. -/
def LastP (l : List Ti) (total : Int) (k : Nat) (la : Int) : Prop :=
  (la = -1 ∧ offL total (l.take k) 0 = 0) ∨ ∃ (j : Nat) (t : Ti), la = j ∧ j < k ∧ l[j]? = some t ∧ t.lo ≤ total ∧ offL total (l.take k) 0 = t.off
theorem LastP.step {l : List Ti} {total : Int} {k : Nat} {la : Int} {t : Ti} (h : LastP l total k la) (ht : l[k]? = some t) : LastP l total (k + 1) (if t.lo ≤ total then (k : Int) else la) := by
  have e : l.take (k + 1) = l.take k ++ [t] := by rw [List.take_add_one, ht]; rfl
  by_cases hc : t.lo ≤ total
  · rw [if_pos hc]
    exact .inr ⟨k, t, rfl, by omega, ht, hc, by rw [e, offL_snoc, if_pos hc]⟩
  · rw [if_neg hc]
    rcases h with ⟨h1, h2⟩ | ⟨j, u, h1, h2, h3, h4, h5⟩
    · exact .inl ⟨h1, by rw [e, offL_snoc, if_neg hc, h2]⟩
    · exact .inr ⟨j, u, h1, by omega, h3, h4, by rw [e, offL_snoc, if_neg hc, h5]⟩
end Saw
namespace Go.Proofs.YtdbkdneolcgfjaaDoor
open Go.RowKit Saw Go.Sort

theorem RdTi.one {w : World} {B b off n c : Nat} {l : List Ti} (h : RdTi w B (.slice (some ⟨b, off, none⟩) n c) l) {j : Nat} {t : Ti} (ht : l[j]? = some t) (c' : Nat) (hc : 1 ≤ c') : RdTi w B (.slice (some ⟨b, off + j * 2, none⟩) 1 c') [t] := by
  obtain ⟨b', off', hA, hb, q0, q1⟩ := RdTi.at_ h ht
  injection hA with hA
  injection hA with e1 e2
  subst e1 e2
  refine ⟨rfl, by show 1 ≤ maxLen; unfold maxLen; omega, _, c', rfl, hc, fun _ => ⟨b, off + j * 2, rfl, hb, fun i u hu => ?_⟩⟩
  match i, hu with
  | 0, hu => injection hu with hu; subst hu; exact q0
  | 1, hu => injection hu with hu; subst hu; exact q1
  | n + 2, hu => cases hu

set_option maxRecDepth 100000 in
set_option maxHeartbeats 1000000 in
theorem billSpares_walk (l : List Ti) (A : Option Addr) (c : Nat) (total more : Int) (w : World) (h : RdTi w w.heap.size (.slice A l.length c) l ∧ ∀ t ∈ l, I64 t.lo ∧ I64 t.off) (_ht : I64 total) (_hm : I64 more) (hv : VarsB w) :
    Calls Tryd.prog 7 #[.slice A l.length c, .int .i64 total, .int .i64 more] w (LawB w) := by
  obtain ⟨hrd, _⟩ := h
  obtain ⟨_, _, he, hcc, hml⟩ := hrd.form
  injection he with e1 _ e3
  subst e1 e3
  unfold maxLen at hml
  have HRD := Lib.hid hrd
  have HV := Lib.hid hv
  clear hrd hv
  have out : (30 < l.length ∨ more < 0 ∨ 1099511627776 < more ∨ total < 0 ∨ 1125899906842624 < total) → Calls Tryd.prog 7 #[.slice A l.length c, .int .i64 total, .int .i64 more] w (LawB w) := by
    intro hor
    by_cases g1 : 30 < l.length
    · clear hor
      go_enter Tryd.func7, Tryd.ntmps7
      go_wp2_with fail
      refine (awakeB_any _ HV.out).mono ?_
      rintro e w2 ⟨rfl, hb2⟩
      have HB2 := Lib.hid hb2
      clear hb2
      go_wp2_with fail
      go_ret
      exact ⟨rfl, HB2.out⟩
    · by_cases g2 : more < 0
      · clear hor
        go_enter Tryd.func7, Tryd.ntmps7
        go_wp2_with fail
        refine (awakeB_any _ HV.out).mono ?_
        rintro e w2 ⟨rfl, hb2⟩
        have HB2 := Lib.hid hb2
        clear hb2
        go_wp2_with fail
        go_ret
        exact ⟨rfl, HB2.out⟩
      · by_cases g3 : 1099511627776 < more
        · clear hor
          go_enter Tryd.func7, Tryd.ntmps7
          go_wp2_with fail
          refine (awakeB_any _ HV.out).mono ?_
          rintro e w2 ⟨rfl, hb2⟩
          have HB2 := Lib.hid hb2
          clear hb2
          go_wp2_with fail
          go_ret
          exact ⟨rfl, HB2.out⟩
        · by_cases g4 : total < 0
          · clear hor
            go_enter Tryd.func7, Tryd.ntmps7
            go_wp2_with fail
            refine (awakeB_any _ HV.out).mono ?_
            rintro e w2 ⟨rfl, hb2⟩
            have HB2 := Lib.hid hb2
            clear hb2
            go_wp2_with fail
            go_ret
            exact ⟨rfl, HB2.out⟩
          · have g5 : 1125899906842624 < total := by omega
            clear hor
            go_enter Tryd.func7, Tryd.ntmps7
            go_wp2_with fail
            refine (awakeB_any _ HV.out).mono ?_
            rintro e w2 ⟨rfl, hb2⟩
            have HB2 := Lib.hid hb2
            clear hb2
            go_wp2_with fail
            go_ret
            exact ⟨rfl, HB2.out⟩
  by_cases hor : 30 < l.length ∨ more < 0 ∨ 1099511627776 < more ∨ total < 0 ∨ 1125899906842624 < total
  · exact out hor
  · clear out
    have k1 : l.length ≤ 30 := by omega
    have k2 : 0 ≤ more := by omega
    have k3 : more ≤ 1099511627776 := by omega
    have k4 : 0 ≤ total := by omega
    have k5 : total ≤ 1125899906842624 := by omega
    clear hor
    have db := discount_bd l total k4
    obtain ⟨a, f, hd⟩ : ∃ a f, discountP l total = (a, f) := ⟨_, _, rfl⟩
    rw [hd] at db
    obtain ⟨a1, a2⟩ := db
    simp only at a1 a2
    have HD := Lib.hid hd
    clear hd
    go_enter Tryd.func7, Tryd.ntmps7
    go_wp2_with fail
    refine (discount_any l _ total _ HRD.out).mono ?_
    rintro e w1 ⟨he, hb1⟩
    rw [HD.out] at he
    subst he
    have HB1 := Lib.hid hb1
    have hsz1 := hb1.size
    have HRD1 := Lib.hid (show RdTi w1 w1.heap.size _ l from Rd.next HRD.out hb1)
    clear hb1
    by_cases hz : f = 0
    · subst hz
      obtain ⟨htl, _, _, hae⟩ := discount_ok HD.out
      have HTL := Lib.hid htl
      have HAE := Lib.hid hae
      clear htl hae
      go_wp2_with fail
      go_loop [9, 10] (fun lv i => ∃ (k : Nat) (la : Int), k ≤ l.length ∧ i = .int .i64 k ∧ lv = .int .i64 la ∧ LastP l total k la) (fun _ i => l.length - (intOf i).toNat)
      case atStart => exact ⟨0, -1, by omega, rfl, rfl, .inl ⟨rfl, rfl⟩⟩
      case round =>
        obtain ⟨k, la, hk, rfl, rfl, hla⟩ := hrel
        by_cases hlt : k < l.length
        · have hx : l[k]? = some l[k] := List.getElem?_eq_getElem hlt
          obtain ⟨t, hte⟩ : ∃ t, l[k] = t := ⟨_, rfl⟩
          rw [hte] at hx
          obtain ⟨b, off, rfl, hbl, q0, q1⟩ := RdTi.at_ HRD1.out hx
          have HST := Lib.hid (hla.step hx)
          clear hla hx hte
          by_cases ht : t.lo ≤ total
          · have HN := Lib.hid (show LastP l total (k + 1) (k : Int) by have h9 := HST.out; rw [if_pos ht] at h9; exact h9)
            go_wp2_with fail
            exact ⟨⟨k + 1, k, by omega, by go_num, rfl, HN.out⟩, by simp [intOf]; omega⟩
          · have HN := Lib.hid (show LastP l total (k + 1) la by have h9 := HST.out; rw [if_neg ht] at h9; exact h9)
            go_wp2_with fail
            exact ⟨⟨k + 1, la, by omega, by go_num, rfl, HN.out⟩, by simp [intOf]; omega⟩
        · have hkl : l.take k = l := List.take_of_length_le (by omega)
          unfold LastP at hla
          rw [hkl] at hla
          clear hkl
          rcases hla with ⟨rfl, ho⟩ | ⟨j, t, rfl, hj, hjt, htt, ho⟩
          · have haz : a = 0 := by rw [HAE.out, ho]; simp
            subst haz
            clear ho
            go_wp2_with fail
            refine (awakeB_any _ (HV.out.below HB1.out)).mono ?_
            rintro e w2 ⟨rfl, hb2⟩
            have HB2 := Lib.hid (HB1.out.trans (hb2.mono hsz1))
            clear hb2
            go_wp2_with fail
            go_ret
            exact ⟨rfl, HB2.out⟩
          · have hto := HTL.out t (List.mem_of_getElem? hjt)
            have htt2 : 0 ≤ total ∧ total ≤ 1000000000000000 := ⟨k4, by have := (discount_ok HD.out).2.2.1; exact this⟩
            have HD1 := Lib.hid (show discountP [t] total = (a, 0) by rw [discount_one hto, if_neg (by omega), if_pos htt, HAE.out, ho])
            obtain ⟨c2, g, hdg⟩ : ∃ c2 g, discountP [t] (total + more) = (c2, g) := ⟨_, _, rfl⟩
            have HD2 := Lib.hid hdg
            have hge : g = 0 → a ≤ c2 := by
              intro hg
              rw [discount_one hto] at hdg
              split at hdg
              · cases (show (9 : Int) = g from congrArg (·.2) hdg); cases hg
              · have h1 : c2 = (total + more) * (if t.lo ≤ total + more then t.off else 0) / 1000 := (congrArg (·.1) hdg).symm
                rw [if_pos (by omega)] at h1
                rw [h1, HAE.out, ho]
                have : total * t.off ≤ (total + more) * t.off := Int.mul_le_mul_of_nonneg_right (by omega) hto.2.2.1
                omega
            have HGE := Lib.hid hge
            obtain ⟨b, off, rfl, hbl, q0, q1⟩ := RdTi.at_ HRD1.out hjt
            have HJT := Lib.hid hjt
            have f1 : (0 : Int) ≤ (j : Int) := by omega
            have f2 : (j : Int) ≤ (j : Int) + 1 := by omega
            have f3 : (j : Int) + 1 ≤ (c : Int) := by omega
            clear hto htt2 hdg hge hjt ho q0 q1
            go_wp2_with fail
            refine (discount_any [t] _ total _ (RdTi.one HRD1.out HJT.out (c - j) (by omega))).mono ?_
            rintro e w2 ⟨he, hb2⟩
            rw [HD1.out] at he
            subst he
            have HB2 := Lib.hid (HB1.out.trans (hb2.mono hsz1))
            have hsz2 := HB2.out.size
            have HRD2 := Lib.hid (show RdTi w2 w2.heap.size _ l from Rd.next HRD1.out hb2)
            have e1 : (a == a) = true := beq_self_eq_true _
            clear hb2
            go_wp2_with fail
            refine (discount_any [t] _ (total + more) _ (RdTi.one HRD2.out HJT.out (c - j) (by omega))).mono ?_
            rintro e w3 ⟨he, hb3⟩
            rw [HD2.out] at he
            subst he
            have HB3 := Lib.hid (HB2.out.trans (hb3.mono hsz2))
            have hsz3 := HB3.out.size
            clear hb3
            by_cases hg : g = 0
            · have hac := HGE.out hg
              subst hg
              go_wp2_with fail
              refine (awakeB_any _ (HV.out.below HB3.out)).mono ?_
              rintro e w4 ⟨rfl, hb4⟩
              have HB4 := Lib.hid (HB3.out.trans (hb4.mono hsz3))
              clear hb4
              go_wp2_with fail
              go_ret
              exact ⟨rfl, HB4.out⟩
            · have hgb : (g != 0) = true := by rw [bne_iff_ne]; exact hg
              clear hg
              go_wp2_with fail
              refine (awakeB_any _ (HV.out.below HB3.out)).mono ?_
              rintro e w4 ⟨rfl, hb4⟩
              have HB4 := Lib.hid (HB3.out.trans (hb4.mono hsz3))
              clear hb4
              go_wp2_with fail
              go_ret
              exact ⟨rfl, HB4.out⟩
    · have hzb : (f != 0) = true := by rw [bne_iff_ne]; exact hz
      have haz : a = 0 := by
        have h9 := HD.out
        unfold discountP at h9
        split at h9
        · exact (congrArg (·.1) h9).symm
        · split at h9
          · exact (congrArg (·.1) h9).symm
          · split at h9
            · exact (congrArg (·.1) h9).symm
            · exact absurd (congrArg (·.2) h9).symm hz
      subst haz
      clear hz
      go_wp2_with fail
      refine (awakeB_any _ (HV.out.below HB1.out)).mono ?_
      rintro e w2 ⟨rfl, hb2⟩
      have HB2 := Lib.hid (HB1.out.trans (hb2.mono hsz1))
      clear hb2
      go_wp2_with fail
      go_ret
      exact ⟨rfl, HB2.out⟩

end Go.Proofs.YtdbkdneolcgfjaaDoor
