/-
  The law RuletextBack, walked: a table that was written and read again gives the same grades.
-/
import Derived.Test.YtkalkglllgebkaaDoorRLaw4
import Derived.Test.YtkalkglllgebkaaDoorRkF
namespace Saw
def remB : List UInt8 := [35, 32, 114, 117, 108, 101, 115, 10]
theorem skip_rem (l : List UInt8) : skipN false (remB ++ l) = skipN false l + 8 := by
  simp [remB, skipN]
theorem Lexes.rem {l : List UInt8} {ts : List Lx} (h : Lexes l ts) : Lexes (remB ++ l) ts := fun pos => by
  obtain ⟨ys, h1, h2, h3⟩ := h (pos + 8)
  refine ⟨ys, ?_, h2, h3⟩
  have e : scanS (remB ++ l) pos = scanS l (pos + 8) := by
    rw [scanS, scanS, skip_rem, show (remB ++ l).drop (skipN false l + 8) = l.drop (skipN false l) from by rw [Nat.add_comm, ← List.drop_drop]; rfl]
    congr 1
    omega
  rw [e, h1, List.length_append, show remB.length = 8 from rfl]
  congr 4
  omega
theorem parse_rem {l : List Rl} (h : formatR l ≠ []) (hs : (formatR l).length ≤ 7992) : parseR (remB ++ formatR l) = (l, 0, 0) := by
  rw [formatR] at h hs ⊢
  split at h
  · rename_i h1
    rw [if_pos h1] at hs ⊢
    have hok : ∀ r ∈ l, ruleOk r = true := fun r hr => List.all_eq_true.1 h1.2.1 r hr
    obtain ⟨ys, e1, e2, e3⟩ := lexes_scan (Lexes.rem (table_lex l hok)) (by rw [List.length_append]; show 8 + _ ≤ _; omega)
    rw [parseR, e1]
    simp only [ne_eq, not_true_eq_false, if_false]
    have := flat_len l
    have hy : ys.length = (l.flatMap rlT).length := by rw [← e2, List.length_map]
    exact rules_read (endsP e3) l _ 0 [] hok (atK_whole e2) (by rw [List.length_append, List.length_singleton]; omega) (by simpa using h1.1)
  · exact absurd rfl h
theorem format_ok {l : List Rl} (h : formatR l ≠ []) : l.length ≤ 32 ∧ ∀ r ∈ l, ruleOk r = true := by
  rw [formatR] at h
  split at h
  · rename_i h1
    exact ⟨h1.1, fun r hr => List.all_eq_true.1 h1.2.1 r hr⟩
  · exact absurd rfl h
theorem format_le (l : List Rl) : (formatR l).length ≤ 8000 := by
  unfold formatR
  split
  · rename_i h; exact h.2.2
  · exact Nat.zero_le _
end Saw
namespace Go.Proofs.YtkalkglllgebkaaDoor
open Go.RowKit Saw Go.Sort

set_option maxRecDepth 100000 in
set_option maxHeartbeats 2000000 in
theorem ruletextBack_walk (l : List Rl) (A : Option Addr) (c : Nat) (f : List Ft) (A' : Option Addr) (c' : Nat) (w : World) (hl : RdRl w (.slice A l.length c) l) (hf : RdFt w (.slice A' f.length c') f) (hv : VarsX w) :
    Calls Tryd.prog 10 #[.slice A l.length c, .slice A' f.length c'] w (LawX w) := by
  obtain ⟨_, _, _, _, hml⟩ := hl.form
  obtain ⟨_, _, _, _, hml'⟩ := hf.form
  unfold maxLen at hml hml'
  have HL := Lib.hid hl
  have HF := Lib.hid hf
  have HV := Lib.hid hv
  clear hl hf hv
  have hlen8 : (⟨#[35, 32, 114, 117, 108, 101, 115, 10]⟩ : ByteArray).size = 8 := rfl
  go_enter Tryd.func10, Tryd.ntmps10
  go_wp2_with fail
  refine (few_any l _ w HL.out).mono ?_
  rintro e w1 ⟨he, hb⟩
  obtain ⟨q, hq⟩ : ∃ q, fewP l = q := ⟨_, rfl⟩
  rw [hq] at he
  subst he
  have HB1 := Lib.hid hb
  have HL1 := Lib.hid (HL.out.next hb)
  have HF1 := Lib.hid (HF.out.next hb)
  have HQ := Lib.hid hq
  clear hb hq HL HF
  have hgo : q = false ∨ (q = true ∧ 30 < f.length) ∨ (q = true ∧ ¬ 30 < f.length) := by
    cases q with
    | false => exact .inl rfl
    | true => by_cases h : 30 < f.length
              · exact .inr (.inl ⟨rfl, h⟩)
              · exact .inr (.inr ⟨rfl, h⟩)
  rcases hgo with hqf | ⟨hqt, h30⟩ | ⟨hqt, h30⟩
  · subst hqf
    go_wp2_with fail
    refine (awake_any w1 (HV.out.next HB1.out)).mono ?_
    rintro e w2 ⟨he, hb⟩
    subst he
    have HB2 := Lib.hid (bel_call HB1.out hb)
    clear hb
    go_wp2_with fail
    go_ret
    exact ⟨rfl, HB2.out⟩
  · subst hqt
    have h30' : (30 : Int) < (f.length : Int) := by omega
    go_wp2_with fail
    refine (awake_any w1 (HV.out.next HB1.out)).mono ?_
    rintro e w2 ⟨he, hb⟩
    subst he
    have HB2 := Lib.hid (bel_call HB1.out hb)
    clear hb
    go_wp2_with fail
    go_ret
    exact ⟨rfl, HB2.out⟩
  subst hqt
  have h30' : ¬ (30 : Int) < (f.length : Int) := by omega
  have HEA := Lib.hid (few_each HQ.out).2
  have HNM := Lib.hid (show ∀ r ∈ l, NmE 1000000 r.when_ from fun r hr => NmE.up (nodes_nm (x := r.when_) (d := 1) (HEA.out r hr)) (show 200 ≤ 1000000 by decide))
  obtain ⟨s, hs⟩ : ∃ s, formatR l = s := ⟨_, rfl⟩
  have HS := Lib.hid hs
  have hsl := format_le l
  rw [hs] at hsl
  clear hs
  go_wp2_with fail
  refine (formatR_any l _ w1 HL1.out HNM.out (HV.out.next HB1.out)).mono ?_
  rintro e w2 ⟨he, hb⟩
  rw [HS.out] at he
  subst he
  have HB2 := Lib.hid (bel_call HB1.out hb)
  have HL2 := Lib.hid (HL1.out.next hb)
  have HF2 := Lib.hid (HF1.out.next hb)
  clear hb HB1 HL1 HF1
  obtain ⟨q, hq⟩ : ∃ q, s.isEmpty = q := ⟨_, rfl⟩
  have hemp : (str s).toList.isEmpty = q := by rw [toList_bts, bts_str, hq]
  have HQE := Lib.hid hq
  clear hq
  cases q with
  | true =>
    go_wp2_with fail
    refine (awake_any w2 (HV.out.next HB2.out)).mono ?_
    rintro e w4 ⟨he, hb⟩
    subst he
    have HB4 := Lib.hid (bel_call HB2.out hb)
    clear hb
    go_wp2_with fail
    go_ret
    exact ⟨rfl, HB4.out⟩
  | false =>
    have hne : formatR l ≠ [] := by rw [HS.out]; intro e; have := HQE.out; rw [e] at this; cases this
    have hfok := format_ok hne
    have HOK := Lib.hid hfok.2
    have h32 := hfok.1
    have HNE := Lib.hid hne
    obtain ⟨so, hso⟩ : ∃ so, str s = so := ⟨_, rfl⟩
    have hszo : so.size = s.length := by rw [← hso, size_str]
    have k0 : ¬ 9223372036854775807 < 8 + so.size := by omega
    have hsz : ((⟨#[35, 32, 114, 117, 108, 101, 115, 10]⟩ : ByteArray) ++ so).size ≤ 9223372036854775807 := by rw [ByteArray.size_append, hlen8]; omega
    have HBT := Lib.hid (show bts ((⟨#[35, 32, 114, 117, 108, 101, 115, 10]⟩ : ByteArray) ++ so) = remB ++ s by rw [bts_append, ← hso, bts_str]; rfl)
    rw [hso] at hemp ⊢
    clear hne hfok hso
    go_wp2_with fail
    refine (parseR_any _ w2 hsz).mono ?_
    rintro e w4 ⟨v, he, hrd, hb⟩
    rw [HBT.out] at he hrd
    have HB4 := Lib.hid (bel_call HB2.out hb)
    have HL4 := Lib.hid (HL2.out.next hb)
    have HF4 := Lib.hid (HF2.out.next hb)
    clear hb HB2 HL2 HF2
    by_cases h8 : 7992 < so.size
    · have h8' : (7992 : Int) < (so.size : Int) := by omega
      subst he
      clear hrd h8
      go_wp2_with fail
      refine (awake_any w4 (HV.out.next HB4.out)).mono ?_
      rintro e w5 ⟨he, hb⟩
      subst he
      have HB5 := Lib.hid (bel_call HB4.out hb)
      clear hb
      go_wp2_with fail
      go_ret
      exact ⟨rfl, HB5.out⟩
    · have h8' : ¬ (7992 : Int) < (so.size : Int) := by omega
      have HP := Lib.hid (parse_rem HNE.out (by rw [HS.out]; omega))
      rw [HS.out] at HP
      rw [HP.out] at he hrd
      subst he
      have HM4 := Lib.hid (show RdRl w4 v l from hrd)
      obtain ⟨g, hg⟩ : ∃ g, gradeP l f = g := ⟨_, rfl⟩
      have HG := Lib.hid hg
      have ge0 : (g.1 == g.1) = true := beq_self_eq_true _
      have ge1 : (g.2.1 == g.2.1) = true := beq_self_eq_true _
      have ge2 : (g.2.2 == g.2.2) = true := beq_self_eq_true _
      clear hrd h8 hg
      go_wp2_with fail
      refine (grade_any l f HOK.out h32 (by omega) _ _ w4 HL4.out HF4.out).mono ?_
      rintro e w5 ⟨he, hb⟩
      rw [HG.out] at he
      subst he
      have HB5 := Lib.hid (bel_call HB4.out hb)
      have HM5 := Lib.hid (HM4.out.next hb)
      have HF5 := Lib.hid (HF4.out.next hb)
      clear hb HB4 HM4 HF4 HL4
      go_wp2_with fail
      refine (grade_any l f HOK.out h32 (by omega) _ _ w5 HM5.out HF5.out).mono ?_
      rintro e w6 ⟨he, hb⟩
      rw [HG.out] at he
      subst he
      have HB6 := Lib.hid (bel_call HB5.out hb)
      clear hb HB5 HM5 HF5
      go_wp2_with fail
      refine (awake_any w6 (HV.out.next HB6.out)).mono ?_
      rintro e w7 ⟨he, hb⟩
      subst he
      have HB7 := Lib.hid (bel_call HB6.out hb)
      clear hb
      go_wp2_with fail
      go_ret
      exact ⟨rfl, HB7.out⟩

end Go.Proofs.YtkalkglllgebkaaDoor
namespace Go.Proofs.YtkalkglllgebkaaDoor
open Go.ChangeShapes Go.WideShapes Go.ChangeAt Go.RowKit Saw

theorem cells_ft : Tryd.prog.cellsOf 111 = 2 := by kernel_rfl
set_option maxRecDepth 100000 in
theorem row_ft {H : Type} {enc : TypeId × Value → H} {w : World} {spare : Nat → Bool} {held : Bool} {n : Nat} {r : List Value} {y : DataW H × List MemPlace} (h : DataW.trod enc Tryd.prog w 0 spare held n 111 r = some y) :
    ∃ x : Saw.Ft, r = [.string (str x.name), .int .i64 x.n] ∧ -9223372036854775808 ≤ x.n ∧ x.n ≤ 9223372036854775807 := by
  obtain ⟨hlen, m, hf⟩ := row_fields Tryd.underlying111 (by kernel_rfl) (by kernel_rfl) h
  obtain ⟨c0, z0, e0, t0⟩ := hf 0 _ rfl
  obtain ⟨s0, es0, _, hs0⟩ := DataW.trod_string Tryd.underlying9 t0
  injection es0 with es0 _
  subst es0
  obtain ⟨c1, z1, e1, t1⟩ := hf 1 _ rfl
  obtain ⟨n1, m1, _, w1⟩ := DataW.trod_int Tryd.underlying3 t1
  injection m1 with m1 _
  subst m1
  have hb := bounds_i64 w1
  refine ⟨⟨bts s0, n1⟩, ?_, by show _ ≤ n1; omega, by show n1 ≤ _; omega⟩
  apply List.ext_getElem?
  intro j
  by_cases hj : j < 2
  · match j, hj with
    | 0, _ => rw [e0]; exact congrArg (fun t => some (Value.string t)) (str_bts s0).symm
    | 1, _ => exact e1
  · rw [List.getElem?_eq_none (by rw [hlen]; show 2 ≤ j; omega), List.getElem?_eq_none (by show 2 ≤ j; omega)]
theorem rows_fts : ∀ (rows : List (List Value)), (∀ r ∈ rows, ∃ x : Saw.Ft, r = [.string (str x.name), .int .i64 x.n] ∧ -9223372036854775808 ≤ x.n ∧ x.n ≤ 9223372036854775807) → ∃ l : List Saw.Ft, l.length = rows.length ∧ rows.flatten = ftCells l ∧ ∀ x ∈ l, -9223372036854775808 ≤ x.n ∧ x.n ≤ 9223372036854775807
  | [], _ => ⟨[], rfl, rfl, nofun⟩
  | r :: rows, h => by
    obtain ⟨x, rfl, hx⟩ := h r (by simp)
    obtain ⟨l, h1, h2, h3⟩ := rows_fts rows (fun r' hr => h r' (by simp [hr]))
    refine ⟨x :: l, by simp [h1], by rw [List.flatten_cons, h2]; rfl, fun y hy => ?_⟩
    rcases List.mem_cons.1 hy with rfl | hy
    · exact hx
    · exact h3 y hy
set_option maxRecDepth 100000 in
theorem open_fts {H : Type} {enc : TypeId × Value → H} {W : World} {r : Reach} {b0 : Nat} {v : Value} {d : DataW H} {p : List MemPlace} (_hv : Value.okWide Tryd.prog W r b0 50 v)
    (h : DataW.Trod enc Tryd.prog W 0 (fun _ => true) true 50 v d p) :
    ∃ (l : List Saw.Ft) (A : Option Addr) (c : Nat), v = .slice A l.length c ∧ RdFt W (.slice A l.length c) l := by
  obtain ⟨a, len, cap, rfl⟩ := okWide_slice Tryd.underlying50 _hv
  obtain ⟨fuel, hf⟩ := h
  obtain ⟨rows, A, c, hv, hrows, hrd⟩ := open_rows (v := .slice a len cap) Tryd.underlying50 cells_ft (by decide) hf
  obtain ⟨l, h1, h2, h3⟩ := rows_fts rows (fun r hr => by obtain ⟨_, n', y', hy⟩ := hrows r hr; exact row_ft hy)
  rw [h2, ← h1] at hrd
  have hl : RdFt W (.slice a len cap) l := ⟨hrd, h3⟩
  obtain ⟨A', c', he, _, _⟩ := hl.form
  rw [he] at hl ⊢
  exact ⟨l, A', c', rfl, hl⟩
end Go.Proofs.YtkalkglllgebkaaDoor
