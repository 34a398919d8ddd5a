/-
  Plain: what is parsed as a catalog has the lexemes of its text; texts joined, texts printed.
-/
import Derived.Test.YtkalkglllgebkaaDoorPrT
namespace Saw

def CanonP (xs : List Lx) : Prop := ∀ x ∈ xs, x.kind ≠ 0 → lexOK x
theorem CanonP.at_ {xs : List Lx} (h : CanonP xs) {k : Nat} (hk : (lxAt xs k).kind ≠ 0) : lexOK (lxAt xs k) := h _ (List.mem_of_getElem? (lxAt_some (lxAt_lt hk))) hk
theorem bareP_name {x : Lx} (h : lexOK x) (h1 : x.kind = 1) : x.bare = nmT x.text := by
  rcases lexOK_canon h with ⟨_, h3⟩ | ⟨h3, _⟩ | ⟨h3, _⟩
  · cases x; simp only at h1 h3; subst h1 h3; rfl
  · rw [h1] at h3; cases h3
  · rw [h1] at h3; cases h3
theorem bareP_num {x : Lx} (h : lexOK x) (h1 : x.kind = 2) : x.bare = nuT x.num := by
  rcases lexOK_canon h with ⟨h3, _⟩ | ⟨_, h3, _⟩ | ⟨h3, _⟩
  · rw [h1] at h3; cases h3
  · cases x; simp only at h1 h3; subst h1 h3; rfl
  · rw [h1] at h3; cases h3
theorem bareP_mark {x : Lx} (h : lexOK x) (h1 : x.kind = 3) : x.bare = mkT x.text := by
  rcases lexOK_canon h with ⟨h3, _⟩ | ⟨h3, _⟩ | ⟨_, h3⟩
  · rw [h1] at h3; cases h3
  · rw [h1] at h3; cases h3
  · cases x; simp only at h1 h3; subst h1 h3; rfl
/-- From k to k' the lexemes are, but for their offsets, these. -/
def Took (xs : List Lx) (k k' : Nat) (ts : List Lx) : Prop := (xs.drop k).map Lx.bare = ts ++ (xs.drop k').map Lx.bare
theorem Took.trans {xs : List Lx} {k k' k'' : Nat} {a b : List Lx} (h : Took xs k k' a) (h' : Took xs k' k'' b) : Took xs k k'' (a ++ b) := by
  unfold Took at *
  rw [h, h', List.append_assoc]
theorem Took.one {xs : List Lx} {k : Nat} {t : Lx} (hk : k < xs.length) (h : (lxAt xs k).bare = t) : Took xs k (k + 1) [t] := by
  unfold Took
  rw [drop_lxAt hk, List.map_cons, h]; rfl
/-- A step that is taken. -/
theorem took_step {xs : List Lx} (hc : CanonP xs) {s : Nat × Bool} {p : Int × List UInt8} (hp : p.1 = 1 ∨ p.1 = 2 ∨ p.1 = 3) (h : (nextS xs s p).2 = false) :
    s.2 = false ∧ nextS xs s p = (s.1 + 1, false) ∧ s.1 < xs.length ∧ Took xs s.1 (s.1 + 1) [if p.1 = 1 then nmT (lexS xs s p).text else if p.1 = 2 then nuT (lexS xs s p).num else mkT (lexS xs s p).text] ∧ (p.2 = [] ∨ (lexS xs s p).text = p.2) := by
  obtain ⟨h1, h2, h3⟩ := nextS_ok h
  obtain ⟨h4, h5⟩ := okS_two h1
  have hk := lxFits_kind h5
  have hne : (lxAt xs s.1).kind ≠ 0 := by rw [hk]; omega
  have hlt := lxAt_lt hne
  have hok := hc.at_ hne
  refine ⟨h4, h2, hlt, Took.one hlt ?_, ?_⟩
  · rw [h3]
    rcases hp with hp | hp | hp
    · rw [if_pos hp]; exact bareP_name hok (by rw [hk, hp])
    · rw [if_neg (by omega), if_pos hp]; exact bareP_num hok (by rw [hk, hp])
    · rw [if_neg (by omega), if_neg (by omega)]; exact bareP_mark hok (by rw [hk, hp])
  · rw [h3]
    rw [lxFits, Bool.and_eq_true, Bool.or_eq_true, beq_iff_eq, beq_iff_eq, beq_iff_eq] at h5
    exact h5.2
theorem took_word {xs : List Lx} (hc : CanonP xs) {s : Nat × Bool} {t : List UInt8} (ht : t ≠ []) (h : (nextS xs s (1, t)).2 = false) : s.2 = false ∧ nextS xs s (1, t) = (s.1 + 1, false) ∧ s.1 < xs.length ∧ Took xs s.1 (s.1 + 1) [nmT t] := by
  obtain ⟨h1, h2, h3, h4, h5⟩ := took_step hc (.inl rfl) h
  rcases h5 with h5 | h5
  · exact absurd h5 ht
  · rw [if_pos rfl, h5] at h4
    exact ⟨h1, h2, h3, h4⟩
theorem took_name {xs : List Lx} (hc : CanonP xs) {s : Nat × Bool} (h : (nextS xs s (1, [])).2 = false) : s.2 = false ∧ nextS xs s (1, []) = (s.1 + 1, false) ∧ s.1 < xs.length ∧ Took xs s.1 (s.1 + 1) [nmT (lexS xs s (1, [])).text] := by
  obtain ⟨h1, h2, h3, h4, _⟩ := took_step hc (.inl rfl) h
  rw [if_pos rfl] at h4
  exact ⟨h1, h2, h3, h4⟩
theorem took_num {xs : List Lx} (hc : CanonP xs) {s : Nat × Bool} (h : (nextS xs s (2, [])).2 = false) : s.2 = false ∧ nextS xs s (2, []) = (s.1 + 1, false) ∧ s.1 < xs.length ∧ Took xs s.1 (s.1 + 1) [nuT (lexS xs s (2, [])).num] := by
  obtain ⟨h1, h2, h3, h4, _⟩ := took_step hc (.inr (.inl rfl)) h
  rw [if_neg (by decide), if_pos rfl] at h4
  exact ⟨h1, h2, h3, h4⟩
theorem took_mark {xs : List Lx} (hc : CanonP xs) {s : Nat × Bool} {t : List UInt8} (ht : t ≠ []) (h : (nextS xs s (3, t)).2 = false) : s.2 = false ∧ nextS xs s (3, t) = (s.1 + 1, false) ∧ s.1 < xs.length ∧ Took xs s.1 (s.1 + 1) [mkT t] := by
  obtain ⟨h1, h2, h3, h4, h5⟩ := took_step hc (.inr (.inr rfl)) h
  rcases h5 with h5 | h5
  · exact absurd h5 ht
  · rw [if_neg (show ¬ (3 : Int) = 1 by decide), if_neg (show ¬ (3 : Int) = 2 by decide), h5] at h4
    exact ⟨h1, h2, h3, h4⟩
theorem next_of_ok {xs : List Lx} {s : Nat × Bool} {p : Int × List UInt8} (h : okS xs s p = true) : nextS xs s p = (s.1 + 1, false) ∧ tryS xs s p = (s.1 + 1, false) := ⟨by rw [nextS, if_pos h], by rw [tryS, if_pos h]⟩
theorem pair_inv {xs : List Lx} (hc : CanonP xs) {s : Nat × Bool} (h : (pairS xs s).2 = false) : s.2 = false ∧ pairS xs s = (s.1 + 3, false) ∧ s.1 + 2 < xs.length ∧ Took xs s.1 (s.1 + 3) [nuT (pairL xs s), mkT [64], nuT (pairP xs s)] := by
  have h3 := took_num hc h
  have h2 := took_mark hc (by decide) h3.1
  have h1 := took_num hc h2.1
  have e1 : nextS xs s (2, []) = (s.1 + 1, false) := h1.2.1
  have e2 : nextS xs (nextS xs s (2, [])) (3, [64]) = (s.1 + 2, false) := by rw [h2.2.1, e1]
  have e3 : pairS xs s = (s.1 + 3, false) := by
    have := h3.2.1
    rw [e2] at this
    rw [pairS, e2]; exact this
  have l3 := h3.2.2.1
  rw [e2] at l3
  have t2 := h2.2.2.2
  rw [e1] at t2
  have t3 := h3.2.2.2
  rw [e2] at t3
  refine ⟨h1.1, e3, l3, ?_⟩
  have hp : pairP xs s = (lexS xs (s.1 + 2, false) (2, [])).num := by rw [pairP, e2]
  rw [hp]
  exact (h1.2.2.2.trans t2).trans t3
theorem pairs_inv {xs : List Lx} (hc : CanonP xs) (hend : LxEnds xs) : ∀ (n j : Nat) (s : Nat × Bool) (ls ps : List Int), s.1 < xs.length → xs.length - s.1 ≤ n → (pairsS xs n s ls ps).2.2.2 = false →
    s.2 = false ∧ ∃ (p : Int × Int) (r : List (Int × Int)), (pairsS xs n s ls ps).1 = ls ++ p.1 :: r.map (·.1) ∧ (pairsS xs n s ls ps).2.1 = ps ++ p.2 :: r.map (·.2) ∧ Took xs s.1 (pairsS xs n s ls ps).2.2.1 (nuT p.1 :: mkT [64] :: nuT p.2 :: pairsToks (j + 1) r)
  | 0, j, s, ls, ps, hs, hn, _ => by omega
  | n + 1, j, s, ls, ps, hs, hn, h => by
    rw [pairsS] at h ⊢
    by_cases hok : okS xs (pairS xs s) (3, [44]) = true
    · rw [if_pos hok] at h ⊢
      have hp := pair_inv hc (okS_two hok).1
      have hnx := next_of_ok hok
      have hm := took_mark hc (t := [44]) (by decide) (s := pairS xs s) (by rw [hnx.1])
      rw [hnx.2] at h ⊢
      rw [hp.2.1] at h ⊢ hm
      have hk4 : s.1 + 3 + 1 < xs.length := by
        have h5 := (okS_two hok).2
        rw [hp.2.1] at h5
        exact lxEnds_next hend hm.2.2.1 (by rw [lxFits_kind h5]; decide)
      obtain ⟨_, p, r, i1, i2, i3⟩ := pairs_inv hc hend n (j + 1) (s.1 + 3 + 1, false) (ls ++ [pairL xs s]) (ps ++ [pairP xs s]) hk4 (by simp only; omega) h
      refine ⟨hp.1, (pairL xs s, pairP xs s), p :: r, by rw [i1]; simp, by rw [i2]; simp, ?_⟩
      rw [pairsToks_succ]
      have := (hp.2.2.2.trans hm.2.2.2).trans i3
      simpa using this
    · rw [if_neg hok] at h ⊢
      have hp := pair_inv hc h
      refine ⟨hp.1, (pairL xs s, pairP xs s), [], by simp, by simp, ?_⟩
      have := hp.2.2.2
      simp only
      rw [hp.2.1]
      exact this
theorem prod_inv {xs : List Lx} (hc : CanonP xs) (hend : LxEnds xs) {s : Nat × Bool} (hs : s.1 < xs.length) (h : (prodS xs s).2.2 = false) : s.2 = false ∧ PrWf (prodS xs s).1 ∧ Took xs s.1 (prodS xs s).2.1 (prToks (prodS xs s).1) := by
  have hin := (hd10_in hend hs).2.2.2.2.2.2.2.2.2
  have h11 := took_mark hc (t := [59]) (by decide) h
  obtain ⟨h10', p, r, i1, i2, i3⟩ := pairs_inv hc hend xs.length 0 (hd10 xs s) [] [] hin (by omega) h11.1
  have h10 := took_mark hc (t := [58]) (by decide) (s := hd9 xs s) h10'
  have h9 := took_num hc (s := hd8 xs s) h10.1
  have h8 := took_word hc (t := waneW) (by decide) (s := hd7 xs s) h9.1
  have h7 := took_num hc (s := hd6 xs s) h8.1
  have h6 := took_word hc (t := allowW) (by decide) (s := hd5 xs s) h7.1
  have h5 := took_num hc (s := hd4 xs s) h6.1
  have h4 := took_word hc (t := [120]) (by decide) (s := hd3 xs s) h5.1
  have h3 := took_num hc (s := hd2 xs s) h4.1
  have h2 := took_name hc (s := hd1 xs s) h3.1
  have h1 := took_word hc (t := productW) (by decide) (s := s) h2.1
  have e1 : (hd1 xs s).1 = s.1 + 1 := by rw [hd1, h1.2.1]
  have e2 : (hd2 xs s).1 = s.1 + 1 + 1 := by rw [hd2, h2.2.1, e1]
  have e3 : (hd3 xs s).1 = s.1 + 1 + 1 + 1 := by rw [hd3, h3.2.1, e2]
  have e4 : (hd4 xs s).1 = s.1 + 1 + 1 + 1 + 1 := by rw [hd4, h4.2.1, e3]
  have e5 : (hd5 xs s).1 = s.1 + 1 + 1 + 1 + 1 + 1 := by rw [hd5, h5.2.1, e4]
  have e6 : (hd6 xs s).1 = s.1 + 1 + 1 + 1 + 1 + 1 + 1 := by rw [hd6, h6.2.1, e5]
  have e7 : (hd7 xs s).1 = s.1 + 1 + 1 + 1 + 1 + 1 + 1 + 1 := by rw [hd7, h7.2.1, e6]
  have e8 : (hd8 xs s).1 = s.1 + 1 + 1 + 1 + 1 + 1 + 1 + 1 + 1 := by rw [hd8, h8.2.1, e7]
  have e9 : (hd9 xs s).1 = s.1 + 1 + 1 + 1 + 1 + 1 + 1 + 1 + 1 + 1 := by rw [hd9, h9.2.1, e8]
  have e10 : (hd10 xs s).1 = s.1 + 1 + 1 + 1 + 1 + 1 + 1 + 1 + 1 + 1 + 1 := by rw [hd10, h10.2.1, e9]
  have t1 := h1.2.2.2
  have t2 := h2.2.2.2
  have t3 := h3.2.2.2
  have t4 := h4.2.2.2
  have t5 := h5.2.2.2
  have t6 := h6.2.2.2
  have t7 := h7.2.2.2
  have t8 := h8.2.2.2
  have t9 := h9.2.2.2
  have t10 := h10.2.2.2
  have t11 := h11.2.2.2
  rw [e1] at t2
  rw [e2] at t3
  rw [e3] at t4
  rw [e4] at t5
  rw [e5] at t6
  rw [e6] at t7
  rw [e7] at t8
  rw [e8] at t9
  rw [e9] at t10
  rw [e10] at i3
  have hfin := (((((((((((t1.trans t2).trans t3).trans t4).trans t5).trans t6).trans t7).trans t8).trans t9).trans t10).trans i3).trans t11)
  have hl : (prodS xs s).1.lens = p.1 :: r.map (·.1) := by rw [prodS]; simpa using i1
  have hp : (prodS xs s).1.prices = p.2 :: r.map (·.2) := by rw [prodS]; simpa using i2
  have hzip : ∀ r : List (Int × Int), (r.map (·.1)).zip (r.map (·.2)) = r := by
    intro r
    induction r with
    | nil => rfl
    | cons q r ih => rw [List.map_cons, List.map_cons, List.zip_cons_cons, ih]
  refine ⟨h1.1, ⟨by rw [hl, hp]; simp, by rw [hl]; simp⟩, ?_⟩
  have hk : (prodS xs s).2.1 = (pairsS xs xs.length (hd10 xs s) [] []).2.2.1 + 1 := by
    have : (prodS xs s).2 = ((pairsS xs xs.length (hd10 xs s) [] []).2.2.1 + 1, false) := h11.2.1
    rw [this]
  rw [hk]
  have htk : prToks (prodS xs s).1 = [nmT productW, nmT (lexS xs (hd1 xs s) (1, [])).text, nuT (lexS xs (hd2 xs s) (2, [])).num, nmT [120], nuT (lexS xs (hd4 xs s) (2, [])).num, nmT allowW, nuT (lexS xs (hd6 xs s) (2, [])).num, nmT waneW, nuT (lexS xs (hd8 xs s) (2, [])).num, mkT [58]] ++ (nuT p.1 :: mkT [64] :: nuT p.2 :: pairsToks (0 + 1) r) ++ [mkT [59]] := by
    rw [prToks, hl, hp, List.zip_cons_cons, hzip, pairsToks, pairToks, if_neg (by omega)]
    simp [prodS]
  rw [htk]
  simpa [Took, List.append_assoc] using hfin
theorem prods_inv {ys : List Lx} {pe : Int} (hk : ∀ y ∈ ys, y.kind ≠ 0) (hc : CanonP (ys ++ [lxEnd pe])) (hend : LxEnds (ys ++ [lxEnd pe])) : ∀ (n : Nat) (s : Nat × Bool) (acc : List Pr) (os : List Int), (ys ++ [lxEnd pe]).length - s.1 ≤ n → s.1 < (ys ++ [lxEnd pe]).length → (prodAll (ys ++ [lxEnd pe]) n s acc os).2.2.2 = false → os.length = acc.length →
    ∃ rest, (prodAll (ys ++ [lxEnd pe]) n s acc os).1 = acc ++ rest ∧ (prodAll (ys ++ [lxEnd pe]) n s acc os).2.1.length = (acc ++ rest).length ∧ (∀ x ∈ rest, PrWf x) ∧ ((ys ++ [lxEnd pe]).drop s.1).map Lx.bare = rest.flatMap prToks ++ [(lxEnd 0).bare]
  | 0, s, acc, os, hn, hs, _, _ => by omega
  | n + 1, s, acc, os, hn, hs, h, hol => by
    rw [prodAll] at h ⊢
    by_cases h0 : s.2 = true ∨ (lxAt (ys ++ [lxEnd pe]) s.1).kind = 0
    · rw [if_pos h0] at h ⊢
      refine ⟨[], by simp, by simpa using hol, by simp, ?_⟩
      have hk0 : (lxAt (ys ++ [lxEnd pe]) s.1).kind = 0 := by
        rcases h0 with h1 | h1
        · rw [h1] at h; cases h
        · exact h1
      have hky : s.1 = ys.length := by
        rw [List.length_append, List.length_singleton] at hs
        by_cases hlt : s.1 < ys.length
        · rw [lxAt, List.getElem?_append_left hlt, List.getElem?_eq_getElem hlt] at hk0
          exact absurd hk0 (hk _ (List.getElem_mem hlt))
        · omega
      rw [hky, List.drop_left]
      rfl
    · rw [if_neg h0] at h ⊢
      cases hf : (prodS (ys ++ [lxEnd pe]) s).2.2 with
      | true =>
        have hst : prodAll (ys ++ [lxEnd pe]) n (prodS (ys ++ [lxEnd pe]) s).2 (acc ++ [(prodS (ys ++ [lxEnd pe]) s).1]) (os ++ [(lxAt (ys ++ [lxEnd pe]) s.1).off]) = (acc ++ [(prodS (ys ++ [lxEnd pe]) s).1], os ++ [(lxAt (ys ++ [lxEnd pe]) s.1).off], (prodS (ys ++ [lxEnd pe]) s).2) := by
          cases n with
          | zero => rfl
          | succ n => rw [prodAll, if_pos (.inl hf)]
        rw [hst] at h
        simp only at h
        rw [hf] at h
        cases h
      | false =>
        obtain ⟨_, hw, ht⟩ := prod_inv hc hend hs hf
        have hin := prodS_in hend hs
        have hgt := prodS_gt hf
        obtain ⟨rest, r1, r2, r3, r4⟩ := prods_inv hk hc hend n (prodS (ys ++ [lxEnd pe]) s).2 (acc ++ [(prodS (ys ++ [lxEnd pe]) s).1]) (os ++ [(lxAt (ys ++ [lxEnd pe]) s.1).off]) (by omega) hin h (by simp [hol])
        refine ⟨(prodS (ys ++ [lxEnd pe]) s).1 :: rest, by rw [r1]; simp, by rw [r2]; simp, ?_, ?_⟩
        · intro x hx
          rcases List.mem_cons.1 hx with rfl | hx
          · exact hw
          · exact r3 x hx
        · rw [ht, r4, List.flatMap_cons, List.append_assoc]
theorem heads_zero {l : List Pr} : ∀ (os : List Int) (k : Nat), (headsErr l os k).1 = 0 → headsErr l os k = (0, 0) ∧ ∀ j, j < os.length → checkPr (l.take (k + j + 1)) = 0
  | [], k, _ => ⟨rfl, nofun⟩
  | o :: os, k, h => by
    rw [headsErr] at h ⊢
    split at h
    · rename_i h1; exact absurd h h1
    · rename_i h1
      obtain ⟨i1, i2⟩ := heads_zero os (k + 1) h
      rw [if_neg h1]
      refine ⟨i1, fun j hj => ?_⟩
      cases j with
      | zero => simpa using h1
      | succ j =>
        have := i2 j (by simpa using hj)
        rwa [show k + 1 + j + 1 = k + (j + 1) + 1 by omega] at this
theorem scanP_can {s : List UInt8} {xs : List Lx} (h : scanP s = (xs, 0, 0)) : ∃ ys, xs = ys ++ [lxEnd s.length] ∧ (∀ y ∈ ys, y.kind ≠ 0) ∧ (∀ y ∈ ys, lexOK y) ∧ s.length ≤ 8000 := by
  obtain ⟨h1, _, ⟨ys, h2, h3⟩, _, _⟩ := scanP_good s (by rw [h])
  rw [h] at h2
  simp only at h2
  refine ⟨ys, h2, h3, ?_, h1⟩
  rw [scanP_eq s h1] at h
  obtain ⟨zs, hz1, hz2, _⟩ := scanS_lexOK _ s 0 (Nat.le_refl _) (by rw [h])
  rw [h] at hz1
  simp only at hz1
  rw [h2] at hz1
  have := congrArg List.dropLast hz1
  rw [List.dropLast_concat, List.dropLast_concat] at this
  rw [this]
  exact hz2
theorem canonP_of {ys : List Lx} {pe : Int} (h : ∀ y ∈ ys, lexOK y) : CanonP (ys ++ [lxEnd pe]) := fun x hx hk => by
  rcases List.mem_append.1 hx with hx | hx
  · exact h x hx
  · rw [List.mem_singleton.1 hx] at hk; exact absurd rfl hk
theorem endsP {ys : List Lx} {p : Int} (_h : ∀ x ∈ ys, x.kind ≠ 0) : LxEnds (ys ++ [lxEnd p]) := by
  intro i x hx hk
  have hi := (List.getElem?_eq_some_iff.1 hx).1
  rw [List.length_append, List.length_singleton] at hi ⊢
  by_cases h1 : i < ys.length
  · omega
  · have : i = ys.length := by omega
    subst this
    rw [List.getElem?_append_right (Nat.le_refl _), Nat.sub_self] at hx
    injection hx with hx
    subst hx
    exact absurd rfl hk
/-- What is accepted is a catalog, and its lexemes are those of the catalog's text. -/
theorem parsePr_inv {s : List UInt8} {l : List Pr} {a : Int} (h : parsePr s = (l, 0, a)) : a = 0 ∧ checkPr l = 0 ∧ (∀ x ∈ l, PrWf x) ∧ ∃ ys, scanP s = (ys ++ [lxEnd s.length], 0, 0) ∧ (∀ y ∈ ys, lexOK y) ∧ ys.map Lx.bare = l.flatMap prToks := by
  obtain ⟨xs, e, at_, hsc⟩ : ∃ xs e at_, scanP s = (xs, e, at_) := ⟨_, _, _, rfl⟩
  unfold parsePr at h
  rw [hsc] at h
  simp only at h
  by_cases he : e = 0
  · subst he
    have ha0 : at_ = 0 := by have := (scanP_good s (by rw [hsc])).2.1; rw [hsc] at this; exact this
    subst ha0
    rw [if_neg (by simp)] at h
    obtain ⟨ys, rfl, hk, hok, h8⟩ := scanP_can hsc
    obtain ⟨R, hR⟩ : ∃ R, prodAll (ys ++ [lxEnd s.length]) (ys ++ [lxEnd s.length]).length (0, false) [] [] = R := ⟨_, rfl⟩
    rw [hR] at h
    by_cases hf : R.2.2.2 = true
    · rw [if_pos hf] at h
      exact absurd (show (5 : Int) = 0 from congrArg (·.2.1) h) (by decide)
    · rw [if_neg hf] at h
      by_cases hh : (headsErr R.1 R.2.1 0).1 = 0
      · rw [if_neg (by simp [hh])] at h
        simp only [Prod.mk.injEq, true_and] at h
        obtain ⟨h1, h2⟩ := h
        have hinv := prods_inv hk (canonP_of (pe := s.length) hok) (endsP hk) (ys ++ [lxEnd s.length]).length (0, false) [] [] (by simp) (by rw [List.length_append, List.length_singleton]; simp) (by rw [hR]; simpa using hf) rfl
        obtain ⟨rest, r1, r2, r3, r4⟩ := hinv
        rw [hR] at r1 r2
        rw [List.nil_append] at r1 r2
        rw [h1] at r1
        subst r1
        obtain ⟨z1, z2⟩ := heads_zero _ _ hh
        have hck : checkPr l = 0 := by
          rw [h1] at z2
          rcases Nat.eq_zero_or_pos l.length with h0 | h0
          · rw [List.length_eq_zero_iff.1 h0]; rfl
          · have := z2 (l.length - 1) (by omega)
            rwa [List.take_of_length_le (by omega)] at this
        refine ⟨h2.symm, hck, r3, ys, hsc, hok, ?_⟩
        rw [List.drop_zero, List.map_append] at r4
        have := congrArg List.dropLast r4
        rw [List.map_singleton, List.dropLast_concat, List.dropLast_concat] at this
        exact this
      · rw [if_pos hh] at h
        exact absurd (congrArg (·.2.1) h) hh
  · rw [if_pos he] at h
    exact absurd (congrArg (·.2.1) h) he
/-- With an error nothing is returned. -/
theorem parsePr_bad {s : List UInt8} {l : List Pr} {e a : Int} (h : parsePr s = (l, e, a)) (he : e ≠ 0) : l = [] := by
  unfold parsePr at h
  split at h
  · simp only [Prod.mk.injEq] at h; exact h.1.symm
  · split at h
    · simp only [Prod.mk.injEq] at h; exact h.1.symm
    · split at h
      · simp only [Prod.mk.injEq] at h; exact h.1.symm
      · simp only [Prod.mk.injEq] at h; exact absurd h.2.1.symm he
theorem texts_ofP {xs : List Lx} {e : Lx} (hk : ∀ x ∈ xs, x.kind ≠ 0) (he : e.kind = 0) : texts (xs ++ [e]) = xs.map (·.text) := by
  rw [texts_snoc, if_neg (by simp [he]), List.append_nil, texts]
  rw [List.filter_eq_self.2 (fun x hx => by simpa using hk x hx)]
theorem flat_texts : ∀ ys : List Lx, (∀ y ∈ ys, lexOK y) → (ys.map (·.text)).length ≤ (ys.map (·.text)).flatten.length
  | [], _ => by simp
  | y :: r, h => by
    have := flat_texts r (fun z hz => h z (by simp [hz]))
    have h1 : 1 ≤ y.text.length := by
      have hy := (h y (by simp)).2 0
      have := readP_text _ _ (show (readP y.text 0).2 = 0 by rw [hy])
      rw [hy] at this
      exact this.1
    simp only [List.map_cons, List.length_cons, List.flatten_cons, List.length_append]
    omega
/-- The lexemes of a text, printed, describe the same catalog. -/
theorem parsePr_print {s : List UInt8} {l : List Pr} {a : Int} (h : parsePr s = (l, 0, a)) (hl : s.length ≤ 4000) : ∃ xs, scanP s = (xs, 0, 0) ∧ parsePr (printP xs) = (l, 0, 0) ∧ (printP xs).length ≤ 8000 := by
  obtain ⟨_, hck, hw, ys, hsc, hok, hb⟩ := parsePr_inv h
  have hk : ∀ y ∈ ys, y.kind ≠ 0 := fun y hy => (hok y hy).1
  refine ⟨_, hsc, ?_⟩
  have hpr : printP (ys ++ [lxEnd s.length]) = Go.Lib.join (ys.map (·.text)) [32] := by rw [printP, texts_ofP hk rfl]
  have hjl := join_len (ys.map (·.text))
  have hft := flat_texts ys hok
  have htl : (ys.map (·.text)).flatten.length ≤ s.length := by
    rw [scanP_eq s (by omega)] at hsc
    obtain ⟨us, hu1, _, _, hu4⟩ := scanS_lexOK _ s 0 (Nat.le_refl _) (by rw [hsc])
    rw [hsc] at hu1
    have := congrArg List.dropLast hu1
    simp only [List.dropLast_concat] at this
    rw [this]
    exact hu4
  obtain ⟨zs, h1, h2, _, h4⟩ := scanS_again ys hok 0
  have hsc2 : scanP (printP (ys ++ [lxEnd s.length])) = (zs ++ [lxEnd (0 + (Go.Lib.join (ys.map (·.text)) [32]).length)], 0, 0) := by rw [hpr, scanP_eq _ (by omega), h1]
  have hb2 : zs.map Lx.bare = ys.map Lx.bare := ((sameP_bare ys zs).1 h2).symm
  refine ⟨(parse_toks (e := (lxEnd (0 + (Go.Lib.join (ys.map (·.text)) [32]).length)).bare) hsc2 rfl ?_ hw).1 hck, by rw [hpr]; omega⟩
  rw [List.map_append, hb2, hb]; rfl
/-- Two texts with a line feed between them. -/
theorem parsePr_join {s t : List UInt8} {a b : List Pr} {e1 e2 : Int} (h1 : parsePr s = (a, 0, e1)) (h2 : parsePr t = (b, 0, e2)) (hs : s.length ≤ 3900) (ht : t.length ≤ 3900) :
    (checkPr (a ++ b) = 0 → parsePr (s ++ 10 :: t) = (a ++ b, 0, 0)) ∧ (checkPr (a ++ b) ≠ 0 → ∃ er at_, er ≠ 0 ∧ parsePr (s ++ 10 :: t) = ([], er, at_)) := by
  obtain ⟨_, _, hw1, ys, hsc1, _, hb1⟩ := parsePr_inv h1
  obtain ⟨_, _, hw2, zs, hsc2, _, hb2⟩ := parsePr_inv h2
  have hl : (s ++ 10 :: t).length ≤ 8000 := by rw [List.length_append, List.length_cons]; omega
  rw [scanP_eq s (by omega)] at hsc1
  rw [scanP_eq t (by omega)] at hsc2
  have hj := scanS_join s.length s t 0 (Nat.le_refl _)
  rw [hsc1, if_pos rfl, List.dropLast_concat] at hj
  obtain ⟨us, hu1, hu2⟩ : ∃ us, scanS t (0 + s.length + 1) = (us, 0, 0) ∧ us.map Lx.bare = zs.map Lx.bare ++ [(lxEnd 0).bare] := by
    have hsh := scanS_shift t.length t 0 (s.length + 1) (Nat.le_refl _)
    rw [hsc2, if_pos rfl] at hsh
    rw [show (0 : Int) + s.length + 1 = 0 + (s.length + 1) by omega, hsh]
    refine ⟨_, rfl, ?_⟩
    rw [List.map_map, List.map_append]
    rfl
  rw [hu1, lxAhead, if_pos rfl] at hj
  have hsc : scanP (s ++ 10 :: t) = (ys ++ us, 0, 0) := by rw [scanP_eq _ hl, hj]
  refine parse_toks (e := (lxEnd 0).bare) hsc rfl ?_ ?_
  · rw [List.map_append, hu2, hb1, hb2, List.flatMap_append, List.append_assoc]
  · intro x hx
    rcases List.mem_append.1 hx with hx | hx
    · exact hw1 x hx
    · exact hw2 x hx

end Saw
