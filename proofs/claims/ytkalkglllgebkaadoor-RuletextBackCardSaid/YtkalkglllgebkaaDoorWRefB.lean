/-
  The contracts of sawmillref02.IsName, sawmillref34's valid, Find, Same.
-/
import Derived.Test.YtkalkglllgebkaaDoorIdent
namespace Saw
/-- The reference's condition on a name's byte at an index. -/
def nameAt (i : Nat) (c : Int) : Bool := smallI c || (!(i == 0) && (c == 95 || digI c))
def namesFrom : Nat → List UInt8 → Bool
  | _, [] => true
  | i, c :: r => nameAt i c.toNat && namesFrom (i + 1) r
theorem namesFrom_succ : ∀ (l : List UInt8) (i : Nat), namesFrom (i + 1) l = l.all fun d => nameI d.toNat
  | [], _ => rfl
  | c :: r, i => by
    rw [namesFrom, namesFrom_succ r (i + 1), List.all_cons]
    congr 1
    unfold nameAt nameI
    rw [show ((i + 1) == 0) = false from rfl]
    generalize smallI c.toNat = a
    generalize digI c.toNat = b
    generalize ((c.toNat : Int) == 95) = d
    cases a <;> cases b <;> cases d <;> rfl
theorem isNameP_ref (l : List UInt8) (h1 : 1 ≤ l.length) (h2 : l.length ≤ 16) : isNameP l = namesFrom 0 l := by
  cases l with
  | nil => simp at h1
  | cons c r =>
    rw [isNameP, namesFrom, namesFrom_succ, decide_eq_true h2, Bool.true_and]
    congr 1
    simp [nameAt]
end Saw
namespace Go.Proofs.YtkalkglllgebkaaDoor
open Go.RowKit Saw

set_option maxHeartbeats 400000 in
theorem ref02digit_any (c : Int) (w : World) :
    Calls Tryd.prog 112 #[.int .u8 c] w fun e w' => e = .returned (.bool (digI c)) ∧ w = w' := by
  go_enter Tryd.func112, Tryd.ntmps112
  go_wp2
  all_goals
    go_ret
    refine ⟨ret_bool ?_, rfl⟩
    rw [Bool.eq_iff_iff]; simp [digI]; omega

theorem names_step {s : ByteArray} {j : Nat} {r : Bool} (hlt : j < s.size) (h : namesFrom j ((bts s).drop j) = r) : (nameAt j s[j].toNat && namesFrom (j + 1) ((bts s).drop (j + 1))) = r := by
  rw [drop_cons s j hlt, namesFrom] at h
  exact h

set_option maxHeartbeats 1000000 in
theorem refIsName_any (s : ByteArray) (w : World) (hs : s.size ≤ 9223372036854775807) :
    Calls Tryd.prog 102 #[.string s] w fun e w' => e = .returned (.bool (isNameP (bts s))) ∧ w = w' := by
  obtain ⟨r, hr⟩ : ∃ r, isNameP (bts s) = r := ⟨_, rfl⟩
  rw [hr]
  by_cases h1 : s.size < 1
  · have hrf : r = false := by
      rw [← hr]
      have : bts s = [] := List.eq_nil_of_length_eq_zero (by rw [← size_bts]; omega)
      rw [this]; rfl
    subst hrf
    clear hr
    go_enter Tryd.func102, Tryd.ntmps102
    go_wp2_with fail
    go_ret
    exact ⟨rfl, rfl⟩
  · by_cases h16 : 16 < s.size
    · have hrf : r = false := by
        rw [← hr, name_head (by omega), decide_eq_false (by omega)]; rfl
      subst hrf
      clear hr
      go_enter Tryd.func102, Tryd.ntmps102
      go_wp2_with fail
      go_ret
      exact ⟨rfl, rfl⟩
    · rw [isNameP_ref _ (by rw [← size_bts]; omega) (by rw [← size_bts]; omega)] at hr
      have HR := Lib.hid hr
      clear hr
      go_enter Tryd.func102, Tryd.ntmps102
      go_wp2_with fail
      go_loop [3] (fun i => ∃ j : Nat, j ≤ s.size ∧ i = .int .i64 j ∧ namesFrom j ((bts s).drop j) = r) (fun i => s.size - (intOf i).toNat)
      case atStart => exact ⟨0, by omega, rfl, by rw [List.drop_zero]; exact HR.out⟩
      case round =>
        obtain ⟨j, hj, rfl, hrj⟩ := hrel
        by_cases hlt : j < s.size
        · have hb : s[j].toNat < 256 := s[j].toNat_lt
          have HST := Lib.hid (names_step hlt hrj)
          clear hrj
          cases hna : nameAt j s[j].toNat with
          | true =>
            have HN := Lib.hid (show namesFrom (j + 1) ((bts s).drop (j + 1)) = r by have h9 := HST.out; rw [hna, Bool.true_and] at h9; exact h9)
            have hcase : smallI s[j].toNat = true ∨ smallI s[j].toNat = false ∧ (j ≠ 0 ∧ ((s[j].toNat : Int) = 95 ∨ (s[j].toNat : Int) ≠ 95 ∧ digI s[j].toNat = true)) := by
              unfold nameAt at hna
              cases hsm : smallI s[j].toNat with
              | true => exact .inl rfl
              | false =>
                rw [hsm, Bool.false_or, Bool.and_eq_true, Bool.or_eq_true] at hna
                refine .inr ⟨rfl, by simpa using hna.1, ?_⟩
                by_cases h95 : (s[j].toNat : Int) = 95
                · exact .inl h95
                · exact .inr ⟨h95, by rcases hna.2 with h | h; exact absurd (by simpa using h) h95; exact h⟩
            clear hna
            rcases hcase with hsm | ⟨hsm, hj0, h95 | ⟨h95, hdg⟩⟩
            · have hsm' : 97 ≤ s[j].toNat ∧ s[j].toNat ≤ 122 := by simp [smallI] at hsm; omega
              obtain ⟨q1, q2⟩ := hsm'
              clear hsm
              go_wp2_with fail
              exact ⟨⟨j + 1, by omega, by go_num, HN.out⟩, by simp [intOf]; omega⟩
            · have hjb : ((j : Int) == 0) = false := by rw [beq_eq_false_iff_ne]; omega
              have hnb : ((s[j].toNat : Int) != 95) = false := by rw [bne_eq_false_iff_eq]; exact h95
              have hsm' : ¬ (97 ≤ s[j].toNat ∧ s[j].toNat ≤ 122) := by simp [smallI] at hsm; omega
              clear hsm
              go_wp2_with fail
              all_goals exact ⟨⟨j + 1, by omega, by go_num, HN.out⟩, by simp [intOf]; omega⟩
            · have hjb : ((j : Int) == 0) = false := by rw [beq_eq_false_iff_ne]; omega
              have hnb : ((s[j].toNat : Int) != 95) = true := by rw [bne_iff_ne]; exact h95
              have hsm' : ¬ (97 ≤ s[j].toNat ∧ s[j].toNat ≤ 122) := by simp [smallI] at hsm; omega
              have HDG := Lib.hid hdg
              clear hsm hdg
              go_wp2_with (go_at_call 112; refine (ref02digit_any _ _).mono ?_; rintro e w' ⟨he, rfl⟩; rw [HDG.out] at he; subst he)
              all_goals exact ⟨⟨j + 1, by omega, by go_num, HN.out⟩, by simp [intOf]; omega⟩
          | false =>
            have hrf : r = false := by rw [← HST.out, hna]; rfl
            subst hrf
            have hcase : smallI s[j].toNat = false ∧ (j = 0 ∨ j ≠ 0 ∧ (s[j].toNat : Int) ≠ 95 ∧ digI s[j].toNat = false) := by
              unfold nameAt at hna
              rw [Bool.or_eq_false_iff, Bool.and_eq_false_iff, Bool.or_eq_false_iff] at hna
              refine ⟨hna.1, ?_⟩
              by_cases hj0 : j = 0
              · exact .inl hj0
              · rcases hna.2 with h | h
                · exact absurd (by simpa using h) hj0
                · exact .inr ⟨hj0, by simpa using h.1, h.2⟩
            clear hna HST
            obtain ⟨hsm, hcase⟩ := hcase
            have hsm' : s[j].toNat < 97 ∨ 122 < s[j].toNat := by simp [smallI] at hsm; omega
            clear hsm
            rcases hsm' with q | q
            all_goals
             rcases hcase with hj0 | ⟨hj0, h95, hdg⟩
             · have hjb : ((j : Int) == 0) = true := by rw [beq_iff_eq]; omega
               clear hj0
               go_wp2_with fail
               all_goals first
                 | (go_ret; exact ⟨rfl, rfl⟩)
                 | (exfalso; rename_i hz; rw [Bool.not_eq_false', decide_eq_true_iff] at hz; omega)
             · have hjb : ((j : Int) == 0) = false := by rw [beq_eq_false_iff_ne]; omega
               have hnb : ((s[j].toNat : Int) != 95) = true := by rw [bne_iff_ne]; exact h95
               have HDG := Lib.hid hdg
               clear hdg
               go_wp2_with (go_at_call 112; refine (ref02digit_any _ _).mono ?_; rintro e w' ⟨he, rfl⟩; rw [HDG.out] at he; subst he)
               all_goals first
                 | (go_ret; exact ⟨rfl, rfl⟩)
                 | (exfalso; rename_i hz; rw [Bool.not_eq_false', decide_eq_true_iff] at hz; omega)
        · have hrt : r = true := by rw [← hrj, drop_nil s j hlt]; rfl
          subst hrt
          clear hrj HR
          go_wp2_with fail
          go_ret
          exact ⟨rfl, rfl⟩

end Go.Proofs.YtkalkglllgebkaaDoor
