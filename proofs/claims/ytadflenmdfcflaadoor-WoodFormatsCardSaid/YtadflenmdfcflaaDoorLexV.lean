/-
  Plain laws of the scan, continued: a scan from another offset; bounds of the offsets; blanks and remarks.
-/
import Derived.Test.YtadflenmdfcflaaDoorLexU
namespace Saw

def lxSh (d : Int) (x : Lx) : Lx := { x with off := x.off + d }

theorem scanS_shift (n : Nat) : ∀ (l : List UInt8) (pos d : Int), l.length ≤ n →
    scanS l (pos + d) = if (scanS l pos).2.1 = 0 then ((scanS l pos).1.map (lxSh d), 0, 0) else ([], (scanS l pos).2.1, (scanS l pos).2.2 + d) := by
  induction n with
  | zero =>
    intro l pos d hn
    have : l = [] := List.eq_nil_of_length_eq_zero (by omega)
    subst this
    rw [scanS_end [] _ rfl, scanS_end [] _ rfl, if_pos rfl]
    simp [lxSh, lxEnd]
  | succ n ih =>
    intro l pos d hn
    have hle := skipN_le l false
    by_cases hk : skipN false l = l.length
    · rw [scanS_end l _ hk, scanS_end l _ hk, if_pos rfl]
      simp only [List.map_cons, List.map_nil, lxSh, lxEnd, Prod.mk.injEq, and_true]
      congr 2
      omega
    · have hlt : skipN false l < l.length := by omega
      have ho := readP_off (l.drop (skipN false l)) (pos + skipN false l) (pos + d + skipN false l)
      by_cases he : (readP (l.drop (skipN false l)) (pos + skipN false l)).2 = 0
      · have ht := readP_text _ _ he
        have hlen := readP_len _ _ he
        have h2 := ho.2 he
        rw [List.length_drop] at hlen
        have hs := scanS_ok l pos _ rfl hlt he _ rfl
        obtain ⟨x, hx⟩ : ∃ x, (readP (l.drop (skipN false l)) (pos + skipN false l)).1 = x := ⟨_, rfl⟩
        rw [hx] at hs ht hlen h2
        have hs' := scanS_ok l (pos + d) _ rfl hlt (by rw [ho.1]; exact he) x.text.length (by rw [h2])
        rw [h2, show pos + d + (skipN false l : Int) + (x.text.length : Int) = (pos + skipN false l + x.text.length) + d by omega, ih (l.drop (skipN false l + x.text.length)) (pos + skipN false l + x.text.length) d (by rw [List.length_drop]; omega)] at hs'
        rw [hs', hs]
        obtain ⟨y, hy⟩ : ∃ y, scanS (l.drop (skipN false l + x.text.length)) (pos + skipN false l + x.text.length) = y := ⟨_, rfl⟩
        rw [hy]
        by_cases h0 : y.2.1 = 0
        · have e1 : lxAhead [x] y = (x :: y.1, 0, 0) := by rw [lxAhead, if_pos h0]; rfl
          rw [if_pos h0, e1, if_pos rfl, lxAhead, if_pos rfl]
          simp only [List.cons_append, List.nil_append, List.map_cons, lxSh]
          congr 2
          rw [ht.2.2.1]
          congr 1
          omega
        · have e1 : lxAhead [x] y = y := by rw [lxAhead, if_neg h0]
          rw [if_neg h0, e1, if_neg h0, lxAhead, if_neg h0]
      · rw [scanS_err l pos _ rfl hlt he, if_neg he, scanS_err l (pos + d) _ rfl hlt (by rw [ho.1]; exact he), ho.1]
        simp only [Prod.mk.injEq, true_and]
        omega

theorem scanS_bound (n : Nat) : ∀ (l : List UInt8) (pos : Int), l.length ≤ n → ∀ x ∈ (scanS l pos).1, pos ≤ x.off ∧ x.off ≤ pos + l.length := by
  induction n with
  | zero =>
    intro l pos hn
    have : l = [] := List.eq_nil_of_length_eq_zero (by omega)
    subst this
    rw [scanS_end [] _ rfl]
    intro x hx
    rw [List.mem_singleton] at hx
    subst hx
    simp [lxEnd]
  | succ n ih =>
    intro l pos hn
    have hle := skipN_le l false
    by_cases hk : skipN false l = l.length
    · rw [scanS_end l _ hk]
      intro x hx
      rw [List.mem_singleton] at hx
      subst hx
      simp [lxEnd]
      omega
    · have hlt : skipN false l < l.length := by omega
      by_cases he : (readP (l.drop (skipN false l)) (pos + skipN false l)).2 = 0
      · have ht := readP_text _ _ he
        have hlen := readP_len _ _ he
        rw [List.length_drop] at hlen
        have hs := scanS_ok l pos _ rfl hlt he _ rfl
        obtain ⟨x, hx⟩ : ∃ x, (readP (l.drop (skipN false l)) (pos + skipN false l)).1 = x := ⟨_, rfl⟩
        rw [hx] at hs ht hlen
        have hi := ih (l.drop (skipN false l + x.text.length)) (pos + skipN false l + x.text.length) (by rw [List.length_drop]; omega)
        rw [List.length_drop] at hi
        rw [hs]
        intro z hz
        unfold lxAhead at hz
        split at hz
        · rcases List.mem_cons.1 hz with rfl | hz
          · rw [ht.2.2.1]
            omega
          · have := hi z hz
            omega
        · have := hi z hz
          omega
      · rw [scanS_err l pos _ rfl hlt he]
        simp

/-- A part that consists of blanks and remarks. -/
def restB (b : Bool) (l : List UInt8) : Bool := decide (skipN b l = l.length)
theorem restB_nil (b : Bool) : restB b [] = true := by cases b <;> rfl
theorem restB_lf (b : Bool) (c : UInt8) (r : List UInt8) (h : (c.toNat : Int) = 10) : restB b (c :: r) = restB false r := by
  have h' : c.toNat = 10 := by omega
  cases b <;> simp [restB, skipN, h']
theorem restB_hash (b : Bool) (c : UInt8) (r : List UInt8) (h : (c.toNat : Int) = 35) : restB b (c :: r) = restB true r := by
  have h' : c.toNat = 35 := by omega
  cases b <;> simp [restB, skipN, h']
theorem restB_rem (c : UInt8) (r : List UInt8) (h : (c.toNat : Int) ≠ 10) : restB true (c :: r) = restB true r := by
  have h' : c.toNat ≠ 10 := by omega
  simp [restB, skipN, h']
theorem restB_blank (c : UInt8) (r : List UInt8) (h : (c.toNat : Int) = 32) : restB false (c :: r) = restB false r := by
  have h' : c.toNat = 32 := by omega
  simp [restB, skipN, h']
theorem restB_out (c : UInt8) (r : List UInt8) (h : (c.toNat : Int) ≠ 10) (h2 : (c.toNat : Int) ≠ 35) (h3 : (c.toNat : Int) ≠ 32) : restB false (c :: r) = false := by
  have h' : c.toNat ≠ 10 := by omega
  have h2' : c.toNat ≠ 35 := by omega
  have h3' : c.toNat ≠ 32 := by omega
  simp [restB, skipN, h', h2', h3']

end Saw
