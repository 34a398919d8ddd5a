/-
  The contracts of product's Green, Volume, Find.
-/
import Derived.Test.YtokgonpeolppnaaDoorPrA
namespace Go.Proofs.YtokgonpeolppnaaDoor
open Go.RowKit Saw

theorem below_drewNn {B : Nat} {w w' : World} (h : Below B w w') (n : Nat) : Below B w (w'.drewN n) := ⟨h.os, h.tape, h.output, h.size, h.block⟩

set_option maxRecDepth 100000 in
set_option maxHeartbeats 400000 in
theorem volume_any (x : Pr) (A1 A2 : Option Addr) (n1 c1 n2 c2 : Nat) (n : Int) (w : World) :
    Calls Tryd.prog 20 #[.agg #[.string (str x.name), .int .i64 x.thick, .int .i64 x.width, .int .i64 x.allow, .int .i64 x.wane, .slice A1 n1 c1, .slice A2 n2 c2], .int .i64 n] w fun e w' => e = .returned (.int .i64 (volumeP x n)) ∧ Below w.heap.size w w' := by
  obtain ⟨r, hr⟩ : ∃ r, volumeP x n = r := ⟨_, rfl⟩
  rw [hr]
  unfold volumeP at hr
  cases h1 : sizeOkP x.thick with
  | false =>
    have hrz : r = 0 := by rw [← hr, h1]; rfl
    subst hrz
    clear hr
    go_enter Tryd.func20, Tryd.ntmps20
    go_wp2_with (go_at_call 35; refine (isSize_any _ _).mono ?_; rintro e w' ⟨he, rfl⟩; rw [h1] at he; subst he)
    go_ret
    exact ⟨rfl, (Below.refl _ _).alloc (Nat.le_refl _) _⟩
  | true =>
    cases h2 : sizeOkP x.width with
    | false =>
      have hrz : r = 0 := by rw [← hr, h1, h2]; rfl
      subst hrz
      clear hr
      have HS := Lib.hid (And.intro h1 h2)
      clear h1 h2
      go_enter Tryd.func20, Tryd.ntmps20
      go_wp2_with (go_at_call 35; refine (isSize_any _ _).mono ?_; rintro e w' ⟨he, rfl⟩; first | (rw [HS.out.1] at he; subst he) | (rw [HS.out.2] at he; subst he))
      go_ret
      exact ⟨rfl, (Below.refl _ _).alloc (Nat.le_refl _) _⟩
    | true =>
      rw [h1, h2] at hr
      simp only [Bool.true_and, Bool.and_eq_true, decide_eq_true_eq] at hr
      have HS := Lib.hid (And.intro h1 h2)
      by_cases h3 : 1 ≤ n ∧ n ≤ 20000
      · rw [if_pos h3] at hr
        obtain ⟨h3, h4⟩ := h3
        simp only [sizeOkP, Bool.and_eq_true, decide_eq_true_eq] at h1 h2
        obtain ⟨p, hp⟩ : ∃ p, x.thick * x.width = p := ⟨_, rfl⟩
        have b1 := mul_bd (a := x.thick) (b := x.width) (x := 600) (y := 600) (by omega) (by omega) (by omega) (by omega)
        rw [hp] at b1 hr
        have b2 := mul_bd (a := p) (b := n) (x := 360000) (y := 20000) (by omega) (by omega) (by omega) (by omega)
        rw [hr] at b2
        obtain ⟨b1a, b1b⟩ := b1
        obtain ⟨b2a, b2b⟩ := b2
        clear h1 h2
        go_enter Tryd.func20, Tryd.ntmps20
        go_wp2_with (go_at_call 35; refine (isSize_any _ _).mono ?_; rintro e w' ⟨he, rfl⟩; first | (rw [HS.out.1] at he; subst he) | (rw [HS.out.2] at he; subst he))
        go_ret
        exact ⟨rfl, (Below.refl _ _).alloc (Nat.le_refl _) _⟩
      · rw [if_neg h3] at hr
        subst hr
        clear h1 h2
        by_cases h4 : n < 1
        · clear h3
          go_enter Tryd.func20, Tryd.ntmps20
          go_wp2_with (go_at_call 35; refine (isSize_any _ _).mono ?_; rintro e w' ⟨he, rfl⟩; first | (rw [HS.out.1] at he; subst he) | (rw [HS.out.2] at he; subst he))
          go_ret
          exact ⟨rfl, (Below.refl _ _).alloc (Nat.le_refl _) _⟩
        · have h5 : 20000 < n := by omega
          clear h3
          go_enter Tryd.func20, Tryd.ntmps20
          go_wp2_with (go_at_call 35; refine (isSize_any _ _).mono ?_; rintro e w' ⟨he, rfl⟩; first | (rw [HS.out.1] at he; subst he) | (rw [HS.out.2] at he; subst he))
          go_ret
          exact ⟨rfl, (Below.refl _ _).alloc (Nat.le_refl _) _⟩

set_option maxRecDepth 100000 in
set_option maxHeartbeats 400000 in
theorem green_any (x : Pr) (A1 A2 : Option Addr) (n1 c1 n2 c2 : Nat) (w : World) :
    Calls Tryd.prog 16 #[.agg #[.string (str x.name), .int .i64 x.thick, .int .i64 x.width, .int .i64 x.allow, .int .i64 x.wane, .slice A1 n1 c1, .slice A2 n2 c2]] w fun e w' => e = .returned (.tuple #[.int .i64 (greenP x).1, .int .i64 (greenP x).2]) ∧ Below w.heap.size w w' := by
  obtain ⟨r, hr⟩ : ∃ r, greenP x = r := ⟨_, rfl⟩
  rw [hr]
  unfold greenP at hr
  cases h1 : sizeOkP x.thick with
  | false =>
    have hrz : r = (0, 0) := by rw [← hr, h1]; rfl
    subst hrz
    clear hr
    go_enter Tryd.func16, Tryd.ntmps16
    go_wp2_with (go_at_call 35; refine (isSize_any _ _).mono ?_; rintro e w' ⟨he, rfl⟩; rw [h1] at he; subst he)
    go_ret2
    exact ⟨rfl, (Below.refl _ _).alloc (Nat.le_refl _) _⟩
  | true =>
    cases h2 : sizeOkP x.width with
    | false =>
      have hrz : r = (0, 0) := by rw [← hr, h1, h2]; rfl
      subst hrz
      clear hr
      have HS := Lib.hid (And.intro h1 h2)
      clear h1 h2
      go_enter Tryd.func16, Tryd.ntmps16
      go_wp2_with (go_at_call 35; refine (isSize_any _ _).mono ?_; rintro e w' ⟨he, rfl⟩; first | (rw [HS.out.1] at he; subst he) | (rw [HS.out.2] at he; subst he))
      go_ret2
      exact ⟨rfl, (Below.refl _ _).alloc (Nat.le_refl _) _⟩
    | true =>
      rw [h1, h2] at hr
      simp only [Bool.true_and, Bool.and_eq_true, decide_eq_true_eq] at hr
      have HS := Lib.hid (And.intro h1 h2)
      clear h1 h2
      by_cases h3 : 0 ≤ x.allow ∧ x.allow ≤ 200
      · rw [if_pos h3] at hr
        obtain ⟨h3, h4⟩ := h3
        subst hr
        go_enter Tryd.func16, Tryd.ntmps16
        go_wp2_with (go_at_call 35; refine (isSize_any _ _).mono ?_; rintro e w' ⟨he, rfl⟩; first | (rw [HS.out.1] at he; subst he) | (rw [HS.out.2] at he; subst he))
        go_quiet ((go_at_call 36; exact Calls.quiet_of_same ((grow_any _ _ _ (by first | exact HS.out.1 | exact HS.out.2) h3 h4).mono fun _ _ ⟨a, b⟩ => ⟨a, b.symm⟩)))
        go_wp2_with fail
        go_ret2
        exact ⟨rfl, below_drewNn ((Below.refl _ _).alloc (Nat.le_refl _) _) _⟩
      · rw [if_neg h3] at hr
        subst hr
        by_cases h4 : x.allow < 0
        · clear h3
          go_enter Tryd.func16, Tryd.ntmps16
          go_wp2_with (go_at_call 35; refine (isSize_any _ _).mono ?_; rintro e w' ⟨he, rfl⟩; first | (rw [HS.out.1] at he; subst he) | (rw [HS.out.2] at he; subst he))
          go_ret2
          exact ⟨rfl, (Below.refl _ _).alloc (Nat.le_refl _) _⟩
        · have h5 : 200 < x.allow := by omega
          clear h3
          go_enter Tryd.func16, Tryd.ntmps16
          go_wp2_with (go_at_call 35; refine (isSize_any _ _).mono ?_; rintro e w' ⟨he, rfl⟩; first | (rw [HS.out.1] at he; subst he) | (rw [HS.out.2] at he; subst he))
          go_ret2
          exact ⟨rfl, (Below.refl _ _).alloc (Nat.le_refl _) _⟩

theorem findPr_drop {l : List Pr} {k : Nat} {x : Pr} {nm : List UInt8} {r : Option Nat} (hx : l[k]? = some x) (h : (findPr (l.drop k) nm).map (· + k) = r) :
    ((x.name == nm) = true → r = some k) ∧ ((x.name == nm) = false → (findPr (l.drop (k + 1)) nm).map (· + (k + 1)) = r) := by
  obtain ⟨hk, hn⟩ := List.getElem?_eq_some_iff.1 hx
  rw [List.drop_eq_getElem_cons hk, hn, findPr, List.findIdx?_cons] at h
  refine ⟨fun he => ?_, fun he => ?_⟩
  · rw [if_pos he] at h
    rw [← h]; simp
  · rw [if_neg (by rw [he]; decide)] at h
    rw [← h, findPr]
    cases List.findIdx? (fun x : Pr => x.name == nm) (l.drop (k + 1)) with
    | none => rfl
    | some j => simp only [Option.map_some]; congr 1; omega

def FindPost (r : Option Nat) (w : World) (e : Ending) (w' : World) : Prop := e = .returned (.tuple #[.int .i64 (r.getD 0 : Nat), .bool r.isSome]) ∧ Below w.heap.size w w'

set_option maxRecDepth 100000 in
set_option maxHeartbeats 400000 in
theorem prFind_any (l : List Pr) (v : Value) (nm : List UInt8) (w : World) (hrd : RdPr w w.heap.size v l) :
    Calls Tryd.prog 27 #[v, .string (str nm)] w (FindPost (findPr l nm) w) := by
  obtain ⟨A, c, rfl, hc, hml⟩ := hrd.form
  obtain ⟨r, hr⟩ : ∃ r, findPr l nm = r := ⟨_, rfl⟩
  rw [hr]
  unfold maxLen at hml
  have HR := Lib.hid hr
  have HRD := Lib.hid hrd
  clear hr hrd
  go_enter Tryd.func27, Tryd.ntmps27
  go_wp2_with fail
  go_loopw [10] (fun i wr => ∃ k : Nat, k ≤ l.length ∧ i = .int .i64 k ∧ (findPr (l.drop k) nm).map (· + k) = r ∧ Below w.heap.size w wr) (fun i _ => l.length - (intOf i).toNat)
  case atStart => exact ⟨0, by omega, rfl, by rw [List.drop_zero, HR.out]; simp, Below.refl _ _⟩
  case round =>
    obtain ⟨k, hk, rfl, hrk, hb⟩ := hrel
    have HB := Lib.hid hb
    have hsz := hb.size
    clear hb
    by_cases hlt : k < l.length
    · have hx : l[k]? = some l[k] := List.getElem?_eq_getElem hlt
      obtain ⟨x, hxe⟩ : ∃ x, l[k] = x := ⟨_, rfl⟩
      rw [hxe] at hx
      obtain ⟨b, off, A1, c1, A2, c2, rfl, hbl, _, _, _, _, q0, q1, q2, q3, q4, q5, q6⟩ := RdPr.at_ (HRD.out.below HB.out) hx
      have HD := Lib.hid (findPr_drop hx hrk)
      have hn := str_eqb x.name nm
      clear hxe hx hrk
      cases he : (x.name == nm)
      · rw [he] at hn
        have HN := Lib.hid (HD.out.2 he)
        clear he
        go_wp2_with fail
        exact ⟨⟨k + 1, by omega, by go_num, HN.out, HB.out.alloc hsz _⟩, by simp [intOf]; omega⟩
      · rw [he] at hn
        have hrx := HD.out.1 he
        subst hrx
        clear he
        go_wp2_with fail
        go_ret2
        exact ⟨rfl, HB.out.alloc hsz _⟩
    · have hrn : r = none := by
        rw [List.drop_eq_nil_of_le (by omega)] at hrk
        exact hrk.symm
      subst hrn
      clear hrk HR
      go_wp2_with fail
      go_ret2
      exact ⟨rfl, HB.out⟩

end Go.Proofs.YtokgonpeolppnaaDoor
