/-
  Plain: the text of a valid list of schedules is parsed back as the list; what is parsed is valid and has the lexemes of its text.
-/
import Derived.Test.YtabdlldkkcjppaaDoorPrTi
import Derived.Test.YtabdlldkkcjppaaDoorScP
namespace Saw

theorem itoa5 (n : Int) (h0 : 0 ≤ n) (h1 : n ≤ 20000) : (Go.Lib.itoa n).length ≤ 5 := by
  obtain ⟨u, rfl⟩ : ∃ u : Nat, n = u := ⟨n.toNat, by omega⟩
  rw [Go.Lib.itoa, if_neg (by omega), Int.toNat_natCast]
  exact dec_le 5 u (by decide) (by simp; omega)
theorem partText_len {w : List UInt8} {n : Int} (hw : w.length ≤ 5) (h0 : 0 ≤ n) (h1 : n ≤ 20000) : (partText w n).length ≤ 12 := by
  unfold partText
  have := itoa5 n h0 h1
  split
  · simp only [List.length_append, List.length_cons, List.length_nil]; omega
  · simp
theorem stgText_len {x : Stg} (h : soundP x = true) : (stgText x).length ≤ 50 := by
  obtain ⟨h1, h2, h3, h4, _, h6, h7, h8, h9⟩ := soundP_iff.1 h
  have e1 := partText_len (w := belowW) (by decide) h1 h2
  have e2 := partText_len (w := forW) (by decide) h3 (by omega)
  have e3 := itoa5 x.temp (by omega) (by omega)
  have e4 := itoa5 x.dep (by omega) (by omega)
  simp only [stgText, atW, List.length_append, List.length_cons, List.length_nil] at e1 e2 ⊢
  omega
theorem stgsText_len : ∀ l : List Stg, (∀ x ∈ l, soundP x = true) → (l.flatMap stgText).length ≤ 50 * l.length
  | [], _ => by simp
  | x :: r, h => by
    have := stgsText_len r (fun y hy => h y (by simp [hy]))
    have := stgText_len (h x (by simp))
    rw [List.flatMap_cons, List.length_append, List.length_cons]
    omega
theorem scText_len {x : Sc} (h : checkSc x = 0) : (scText x).length ≤ 700 ∧ 1 ≤ (scText x).length := by
  obtain ⟨h1, h2, h3, h4, h5, h6⟩ := checkSc_ok h
  have := stgsText_len x.stages h6
  have := (isNameP_len h1).2
  have e1 := itoa5 x.ramp (by omega) (by omega)
  simp only [scText, scHead, scheduleW, rampW, List.length_append, List.length_cons, List.length_nil]
  omega
theorem validP_mem {l : List Sc} (h : validP l = true) : ∀ x ∈ l, checkSc x = 0 := fun x hx => by
  obtain ⟨i, hi⟩ := List.mem_iff_getElem?.1 hx
  exact ((validP_all h).2 i x hi).1
theorem formatSc_len {l : List Sc} (h : validP l = true) : (formatSc l).length ≤ 5600 ∧ (l ≠ [] → 1 ≤ (formatSc l).length) := by
  have hm := validP_mem h
  have h8 := (validP_all h).1
  rw [formatSc, if_pos h]
  have key : ∀ l : List Sc, (∀ x ∈ l, checkSc x = 0) → (l.flatMap scText).length ≤ 700 * l.length := by
    intro l
    induction l with
    | nil => intro _; simp
    | cons x r ih =>
      intro hx
      have := ih (fun y hy => hx y (by simp [hy]))
      have := (scText_len (hx x (by simp))).1
      rw [List.flatMap_cons, List.length_append, List.length_cons]
      omega
  have := key l hm
  refine ⟨by omega, fun hne => ?_⟩
  cases l with
  | nil => exact absurd rfl hne
  | cons x r =>
    have := (scText_len (hm x (by simp))).2
    rw [List.flatMap_cons, List.length_append]
    omega

/-! ### The lexemes of a text -/
def partToks (w : List UInt8) (n : Int) : List Lx := if n ≠ 0 then [nmT w, nuT n] else []
def stgToks (x : Stg) : List Lx := partToks belowW x.below ++ partToks forW x.ticks ++ [nmT atW, nuT x.temp, mkT [45], nuT x.dep, mkT [59]]
def scToks (x : Sc) : List Lx := [nmT scheduleW, nmT x.name, nmT rampW, nuT x.ramp, mkT [58]] ++ x.stages.flatMap stgToks

theorem Lexes.part {w : List UInt8} {n : Int} {l : List UInt8} {ts : List Lx} (hw : isWord w = true) (h0 : 0 ≤ n) (h1 : n ≤ 20000) (hl : digI (l.headD 32).toNat = false) (h : Lexes l ts) : Lexes (partText w n ++ l) (partToks w n ++ ts) ∧ digI ((partText w n ++ l).headD 32).toNat = false := by
  unfold partText partToks
  by_cases hn : n ≠ 0
  · rw [if_pos hn, if_pos hn]
    have e : [32] ++ w ++ [32] ++ Go.Lib.itoa n ++ l = 32 :: (w ++ (32 :: (Go.Lib.itoa n ++ l))) := by simp
    rw [e]
    exact ⟨Lexes.blank (.inl rfl) (Lexes.word hw rfl (Lexes.blank (.inl rfl) (Lexes.num h0 (by omega) hl h))), rfl⟩
  · rw [if_neg hn, if_neg hn]
    exact ⟨by simpa using h, by simpa using hl⟩
theorem Lexes.stg {x : Stg} {l : List UInt8} {ts : List Lx} (hx : soundP x = true) (h : Lexes l ts) : Lexes (stgText x ++ l) (stgToks x ++ ts) := by
  obtain ⟨h1, h2, h3, h4, _, h6, h7, h8, h9⟩ := soundP_iff.1 hx
  have b : Lexes ([32] ++ atW ++ [32] ++ Go.Lib.itoa x.temp ++ [32, 45, 32] ++ Go.Lib.itoa x.dep ++ [59] ++ l) (nmT atW :: nuT x.temp :: mkT [45] :: nuT x.dep :: mkT [59] :: ts) := by
    have e : [32] ++ atW ++ [32] ++ Go.Lib.itoa x.temp ++ [32, 45, 32] ++ Go.Lib.itoa x.dep ++ [59] ++ l = 32 :: (atW ++ (32 :: (Go.Lib.itoa x.temp ++ (32 :: ([45] ++ (32 :: (Go.Lib.itoa x.dep ++ ([59] ++ l)))))))) := by simp
    rw [e]
    exact Lexes.blank (.inl rfl) (Lexes.word (by decide) rfl (Lexes.blank (.inl rfl) (Lexes.num (by omega) (by omega) rfl (Lexes.blank (.inl rfl) (Lexes.mark (m := [45]) (by decide) (fun _ => mark_alone 45 _ (by decide)) (Lexes.blank (.inl rfl) (Lexes.num (by omega) (by omega) rfl (Lexes.mark (m := [59]) (by decide) (fun _ => mark_alone 59 _ (by decide)) h))))))))
  have c := Lexes.part (w := forW) (by decide) h3 (by omega) rfl b
  have d := (Lexes.part (w := belowW) (by decide) h1 h2 c.2 c.1).1
  have e1 : stgText x ++ l = partText belowW x.below ++ (partText forW x.ticks ++ ([32] ++ atW ++ [32] ++ Go.Lib.itoa x.temp ++ [32, 45, 32] ++ Go.Lib.itoa x.dep ++ [59] ++ l)) := by simp [stgText]
  have e2 : stgToks x ++ ts = partToks belowW x.below ++ (partToks forW x.ticks ++ (nmT atW :: nuT x.temp :: mkT [45] :: nuT x.dep :: mkT [59] :: ts)) := by simp [stgToks]
  rw [e1, e2]
  exact d
theorem Lexes.stgs {l : List UInt8} {ts : List Lx} (h : Lexes l ts) : ∀ r : List Stg, (∀ x ∈ r, soundP x = true) → Lexes (r.flatMap stgText ++ l) (r.flatMap stgToks ++ ts)
  | [], _ => h
  | x :: r, hx => by
    rw [List.flatMap_cons, List.flatMap_cons, List.append_assoc, List.append_assoc]
    exact Lexes.stg (hx x (by simp)) (Lexes.stgs h r (fun y hy => hx y (by simp [hy])))
theorem Lexes.sc {x : Sc} {l : List UInt8} {ts : List Lx} (hx : checkSc x = 0) (h : Lexes l ts) : Lexes (scText x ++ l) (scToks x ++ ts) := by
  obtain ⟨h1, h2, h3, h4, h5, h6⟩ := checkSc_ok hx
  have b := Lexes.stgs (Lexes.blank (c := 10) (.inr rfl) h) x.stages h6
  have e : scText x ++ l = scheduleW ++ (32 :: (x.name ++ (32 :: (rampW ++ (32 :: (Go.Lib.itoa x.ramp ++ ([58] ++ (x.stages.flatMap stgText ++ 10 :: l)))))))) := by simp [scText, scHead]
  have e2 : scToks x ++ ts = nmT scheduleW :: nmT x.name :: nmT rampW :: nuT x.ramp :: mkT [58] :: (x.stages.flatMap stgToks ++ ts) := by simp [scToks]
  rw [e, e2]
  exact Lexes.word (by decide) rfl (Lexes.blank (.inl rfl) (Lexes.word (name_word h1) rfl (Lexes.blank (.inl rfl) (Lexes.word (by decide) rfl (Lexes.blank (.inl rfl) (Lexes.num (by omega) (by omega) rfl (Lexes.mark (m := [58]) (by decide) (fun _ => mark_alone 58 _ (by decide)) b)))))))
theorem Lexes.scs : ∀ l : List Sc, (∀ x ∈ l, checkSc x = 0) → Lexes (l.flatMap scText) (l.flatMap scToks)
  | [], _ => Lexes.nil
  | x :: r, h => by
    rw [List.flatMap_cons, List.flatMap_cons]
    exact Lexes.sc (h x (by simp)) (Lexes.scs r (fun y hy => h y (by simp [hy])))

/-! ### Reading lexemes -/
theorem part_read {xs : List Lx} {k : Nat} {w : List UInt8} {n : Int} {t : Lx} {ts : List Lx} (hw : w ≠ []) (hn : 0 ≤ n) (ht : t.text ≠ w) (h : AtK xs k (partToks w n ++ t :: ts)) :
    partS xs (k, false) w = (n, (k + (partToks w n).length, false)) ∧ AtK xs (k + (partToks w n).length) (t :: ts) := by
  refine ⟨?_, AtK.skip h⟩
  unfold partToks at h ⊢
  by_cases h0 : n ≠ 0
  · rw [if_pos h0] at h ⊢
    obtain ⟨a1, a2, a3⟩ := AtK.step h
    obtain ⟨b1, b2, b3⟩ := AtK.step a3
    have hok : okS xs (k, false) (1, w) = true := by
      rw [okS]
      simp only [Bool.not_false, Bool.true_and]
      rw [← fits_bare, a1]
      exact fits_nmw w
    have hk : (lxAt xs (k + 1)).kind = 2 := congrArg Lx.kind b1
    have hm : (lxAt xs (k + 1)).num = n := congrArg Lx.num b1
    rw [partS, if_pos hok, if_pos ⟨hk, by rw [hm]; omega⟩, hm]
    rfl
  · rw [if_neg h0] at h ⊢
    have hz : n = 0 := Decidable.not_not.1 h0
    obtain ⟨a1, a2, a3⟩ := AtK.step h
    have hok : okS xs (k, false) (1, w) = false := by
      rw [okS]
      simp only [Bool.not_false, Bool.true_and]
      rw [← fits_bare, a1, ← Bool.not_eq_true, lxFits, Bool.and_eq_true, Bool.or_eq_true, beq_iff_eq, beq_iff_eq, beq_iff_eq]
      rintro ⟨_, h1 | h1⟩
      · exact hw h1
      · exact ht h1
    rw [partS, if_neg (by rw [hok]; decide), hz]
    rfl
/-- A stage that is printed whole. -/
def StgWf (x : Stg) : Prop := 0 ≤ x.below ∧ 0 ≤ x.ticks ∧ (x.below ≠ 0 ∨ x.ticks ≠ 0)
theorem stgWf_of {x : Stg} (h : soundP x = true) : StgWf x := by
  obtain ⟨h1, h2, h3, h4, h5, _⟩ := soundP_iff.1 h
  exact ⟨h1, h3, h5⟩
theorem stg_read {xs : List Lx} {k : Nat} {x : Stg} {ts : List Lx} (hx : StgWf x) (h : AtK xs k (stgToks x ++ ts)) : stgS xs (k, false) = (x, (k + (stgToks x).length, false)) ∧ AtK xs (k + (stgToks x).length) ts := by
  refine ⟨?_, AtK.skip h⟩
  obtain ⟨w1, w2, w3⟩ := hx
  have e2 : stgToks x ++ ts = partToks belowW x.below ++ (partToks forW x.ticks ++ (nmT atW :: nuT x.temp :: mkT [45] :: nuT x.dep :: mkT [59] :: ts)) := by simp [stgToks]
  rw [e2] at h
  obtain ⟨t, r, hr, ht⟩ : ∃ t r, partToks forW x.ticks ++ (nmT atW :: nuT x.temp :: mkT [45] :: nuT x.dep :: mkT [59] :: ts) = t :: r ∧ t.text ≠ belowW := by
    unfold partToks
    split
    · exact ⟨_, _, rfl, by decide⟩
    · exact ⟨_, _, rfl, by decide⟩
  rw [hr] at h
  obtain ⟨p1, p2⟩ := part_read (by decide) w1 ht h
  rw [← hr] at p2
  obtain ⟨q1, q2⟩ := part_read (w := forW) (by decide) w2 (by decide) p2
  obtain ⟨a1, _, _, a4⟩ := q2.next (fits_nmw atW)
  obtain ⟨b1, _, b3, b4⟩ := a4.next (fits_nu x.temp)
  obtain ⟨c1, _, _, c4⟩ := b4.next (fits_mk [45])
  obtain ⟨d1, _, d3, d4⟩ := c4.next (fits_nu x.dep)
  obtain ⟨f1, _, _, f4⟩ := d4.next (fits_mk [59])
  obtain ⟨m, hm⟩ : ∃ m, k + (partToks belowW x.below).length + (partToks forW x.ticks).length = m := ⟨_, rfl⟩
  rw [hm] at a1 b1 c1 d1 f1 b3 d3
  have s1 : stg1 xs (k, false) = (k + (partToks belowW x.below).length, false) := by rw [stg1, p1]
  have s2 : stg2 xs (k, false) = (m, false) := by rw [stg2, s1, q1, hm]
  have s3 : stg3 xs (k, false) = (m, false) := by rw [stg3, s1, p1, q1, s2, if_neg (by simp only; omega)]
  have s4 : stg4 xs (k, false) = (m + 1, false) := by rw [stg4, s3, a1]
  have s5 : stg5 xs (k, false) = (m + 1 + 1, false) := by rw [stg5, s4, b1]
  have s6 : stg6 xs (k, false) = (m + 1 + 1 + 1, false) := by rw [stg6, s5, c1]
  have s7 : stg7 xs (k, false) = (m + 1 + 1 + 1 + 1, false) := by rw [stg7, s6, d1]
  have s8 : stg8 xs (k, false) = (m + 1 + 1 + 1 + 1 + 1, false) := by rw [stg8, s7, f1]
  have hlen : k + (stgToks x).length = m + 1 + 1 + 1 + 1 + 1 := by
    rw [← hm, stgToks]
    simp only [List.length_append, List.length_cons, List.length_nil]
    omega
  rw [stgS, s8, s1, p1, q1, s4, s6, b3, d3, hlen]
  rfl
/-- A lexeme behind the stages. -/
def StopT (t : Lx) : Prop := t.kind = 0 ∨ t = nmT scheduleW
theorem stgToks_head (x : Stg) : ∃ t r, stgToks x = t :: r ∧ t.kind = 1 ∧ t.text ≠ scheduleW := by
  unfold stgToks partToks
  split
  · exact ⟨_, _, rfl, rfl, by decide⟩
  · split
    · exact ⟨_, _, rfl, rfl, by decide⟩
    · exact ⟨_, _, rfl, rfl, by decide⟩
theorem stgs_read {xs : List Lx} {t : Lx} {ts : List Lx} (ht : StopT t) : ∀ (r : List Stg) (n k : Nat) (acc : List Stg), (∀ x ∈ r, StgWf x) → r.length < n → AtK xs k (r.flatMap stgToks ++ t :: ts) →
    stgsS xs n (k, false) acc = (acc ++ r, (k + (r.flatMap stgToks).length, false)) ∧ AtK xs (k + (r.flatMap stgToks).length) (t :: ts)
  | r, 0, k, acc, _, hn, _ => by omega
  | [], n + 1, k, acc, _, _, h => by
    refine ⟨?_, AtK.skip h⟩
    have h1 := (AtK.step h).1
    have hc : (lxAt xs k).kind = 0 ∨ lxIs (lxAt xs k) 1 scheduleW = true := by
      rcases ht with ht | ht
      · left; rw [← ht, ← h1]; rfl
      · right
        rw [ht] at h1
        rw [lxIs, show (lxAt xs k).kind = 1 from congrArg Lx.kind h1, show (lxAt xs k).text = scheduleW from congrArg Lx.text h1]
        rfl
    rw [stgsS, if_pos (.inr hc)]
    simp
  | x :: r, n + 1, k, acc, hw, hn, h => by
    rw [List.flatMap_cons, List.append_assoc] at h
    obtain ⟨i1, i2⟩ := stg_read (hw x (by simp)) h
    obtain ⟨t0, r0, e0, k0, x0⟩ := stgToks_head x
    rw [e0, List.cons_append] at h
    have h1 := (AtK.step h).1
    have hk : (lxAt xs k).kind = 1 := by rw [← k0, ← h1]; rfl
    have hx : (lxAt xs k).text ≠ scheduleW := by have h9 : (lxAt xs k).bare.text = t0.text := congrArg Lx.text h1; rw [show (lxAt xs k).text = t0.text from h9]; exact x0
    have hc : ¬ ((k, false).2 = true ∨ (lxAt xs k).kind = 0 ∨ lxIs (lxAt xs k) 1 scheduleW = true) := by
      rintro (h | h | h)
      · cases h
      · rw [hk] at h; cases h
      · rw [lxIs, Bool.and_eq_true, beq_iff_eq, beq_iff_eq] at h
        exact hx h.2
    obtain ⟨j1, j2⟩ := stgs_read ht r n _ (acc ++ [x]) (fun y hy => hw y (by simp [hy])) (by simp at hn; omega) i2
    rw [stgsS, if_neg hc, i1, j1, List.flatMap_cons, List.length_append, ← Nat.add_assoc]
    exact ⟨by simp, j2⟩
theorem stgToks_ge (x : Stg) : 1 ≤ (stgToks x).length := by simp only [stgToks, List.length_append, List.length_cons]; omega
theorem stgs_ge : ∀ l : List Stg, l.length ≤ (l.flatMap stgToks).length
  | [] => by simp
  | x :: r => by
    have := stgs_ge r
    have := stgToks_ge x
    rw [List.flatMap_cons, List.length_append, List.length_cons]
    omega
theorem sc_read {xs : List Lx} {k : Nat} {x : Sc} {t : Lx} {ts : List Lx} (ht : StopT t) (hw : ∀ y ∈ x.stages, StgWf y) (h : AtK xs k (scToks x ++ t :: ts)) : scS xs (k, false) = (x, (k + (scToks x).length, false)) ∧ AtK xs (k + (scToks x).length) (t :: ts) := by
  refine ⟨?_, AtK.skip h⟩
  have e2 : scToks x ++ t :: ts = nmT scheduleW :: nmT x.name :: nmT rampW :: nuT x.ramp :: mkT [58] :: (x.stages.flatMap stgToks ++ t :: ts) := by simp [scToks]
  rw [e2] at h
  obtain ⟨a1, _, _, a4⟩ := h.next (fits_nmw scheduleW)
  obtain ⟨b1, b2, _, b4⟩ := a4.next (fits_nm x.name)
  obtain ⟨c1, _, _, c4⟩ := b4.next (fits_nmw rampW)
  obtain ⟨d1, _, d3, d4⟩ := c4.next (fits_nu x.ramp)
  obtain ⟨f1, _, _, f4⟩ := d4.next (fits_mk [58])
  have s1 : sc1 xs (k, false) = (k + 1, false) := a1
  have s2 : sc2 xs (k, false) = (k + 1 + 1, false) := by rw [sc2, s1, b1]
  have s3 : sc3 xs (k, false) = (k + 1 + 1 + 1, false) := by rw [sc3, s2, c1]
  have s4 : sc4 xs (k, false) = (k + 1 + 1 + 1 + 1, false) := by rw [sc4, s3, d1]
  have s5 : sc5 xs (k, false) = (k + 1 + 1 + 1 + 1 + 1, false) := by rw [sc5, s4, f1]
  have hl : x.stages.length < xs.length := by
    obtain ⟨rr, hrr⟩ := f4
    have := congrArg List.length hrr
    simp only [List.length_map, List.length_drop, List.length_append, List.length_cons] at this
    have := stgs_ge x.stages
    omega
  obtain ⟨j1, _⟩ := stgs_read ht x.stages xs.length _ [] hw hl f4
  have hlen : k + (scToks x).length = k + 1 + 1 + 1 + 1 + 1 + (x.stages.flatMap stgToks).length := by
    rw [scToks]
    simp only [List.length_append, List.length_cons, List.length_nil]
    omega
  rw [scS, s1, s3, s5, j1, b2, d3, hlen]
  rfl
theorem lastErr_ok {acc : List Sc} {x : Sc} {rest : List Sc} (h : validP (acc ++ x :: rest) = true) : lastErr acc x = 0 := by
  obtain ⟨h1, h2⟩ := validP_all h
  obtain ⟨h3, h4⟩ := h2 acc.length x (by rw [List.getElem?_append_right (Nat.le_refl _), Nat.sub_self]; rfl)
  rw [List.take_left'] at h4
  · rw [List.length_append, List.length_cons] at h1
    rw [lastErr, if_neg (by omega), if_neg (by simp [h3]), h4]
    rfl
  · rfl
theorem scToks_head (x : Sc) : ∃ r, scToks x = nmT scheduleW :: r := ⟨_, rfl⟩
theorem scs_read {xs : List Lx} {e : Lx} (he : e.kind = 0) : ∀ (rest : List Sc) (n k : Nat) (acc : List Sc), (∀ x ∈ rest, ∀ y ∈ x.stages, StgWf y) → validP (acc ++ rest) = true → AtK xs k (rest.flatMap scToks ++ [e]) → rest.length < n →
    scsAll xs n k acc = (acc ++ rest, 0, 0)
  | r, 0, k, acc, _, _, _, hn => by omega
  | [], n + 1, k, acc, _, _, h, hn => by
    have h1 : (lxAt xs k).kind = 0 := by rw [← he, ← (AtK.step h).1]; rfl
    rw [scsAll, if_pos h1, List.append_nil]
  | x :: rest, n + 1, k, acc, hw, hv, h, hn => by
    rw [List.flatMap_cons, List.append_assoc] at h
    obtain ⟨t, ts, hts, ht⟩ : ∃ t ts, rest.flatMap scToks ++ [e] = t :: ts ∧ StopT t := by
      cases rest with
      | nil => exact ⟨e, [], rfl, .inl he⟩
      | cons y r =>
        obtain ⟨r0, e0⟩ := scToks_head y
        rw [List.flatMap_cons, e0]
        exact ⟨_, _, rfl, .inr rfl⟩
    rw [hts] at h
    obtain ⟨i1, i2⟩ := sc_read ht (hw x (by simp)) h
    rw [← hts] at i2
    obtain ⟨r, hr⟩ := scToks_head x
    have h1 : (lxAt xs k).kind = 1 := by
      rw [hr, List.cons_append] at h
      exact congrArg Lx.kind (AtK.step h).1
    rw [scsAll, if_neg (by rw [h1]; decide), i1, if_neg (by simp), if_neg (by simp [lastErr_ok hv])]
    have := scs_read he rest n (k + (scToks x).length) (acc ++ [x]) (fun y hy => hw y (by simp [hy])) (by simpa using hv) i2 (by simp at hn; omega)
    simpa using this
theorem scToks_ge (x : Sc) : 1 ≤ (scToks x).length := by simp [scToks]
theorem scs_ge : ∀ l : List Sc, l.length ≤ (l.flatMap scToks).length
  | [] => by simp
  | x :: r => by
    have := scs_ge r
    have := scToks_ge x
    rw [List.flatMap_cons, List.length_append, List.length_cons]
    omega
/-- The text of a valid list is parsed back as the list. -/
theorem parseSc_format {l : List Sc} (h : validP l = true) : parseSc (formatSc l) = (l, 0, 0) := by
  have hlen := (formatSc_len h).1
  have hx := Lexes.scs l (validP_mem h)
  have hf : formatSc l = l.flatMap scText := by rw [formatSc, if_pos h]
  rw [← hf] at hx
  obtain ⟨ys, h1, h2, h3⟩ := hx 0
  have hsc : scanP (formatSc l) = (ys ++ [lxEnd (0 + (formatSc l).length)], 0, 0) := by rw [scanP_eq _ (by omega), h1]
  have hll : l.length < (ys ++ [lxEnd (0 + (formatSc l).length)]).length := by
    have := congrArg List.length h2
    rw [List.length_map] at this
    have := scs_ge l
    rw [List.length_append, List.length_singleton]
    omega
  have hr := scs_read (xs := ys ++ [lxEnd (0 + (formatSc l).length)]) (e := (lxEnd (0 + (formatSc l).length)).bare) rfl l _ 0 [] (fun x hx y hy => stgWf_of ((checkSc_ok (validP_mem h x hx)).2.2.2.2.2 y hy)) (by simpa using h) ⟨[], by rw [List.drop_zero, List.map_append, h2]; simp⟩ hll
  unfold parseSc
  rw [hsc]
  simp only [ne_eq, not_true_eq_false, if_false]
  rw [hr]; rfl

/-! ### What is parsed -/
theorem part_inv {xs : List Lx} (hc : CanonP xs) {s : Nat × Bool} {w : List UInt8} (hw : w ≠ []) (h : (partS xs s w).2.2 = false) : s.2 = false ∧ Took xs s.1 (partS xs s w).2.1 (partToks w (partS xs s w).1) ∧ 0 ≤ (partS xs s w).1 := by
  unfold partS at h ⊢
  by_cases hok : okS xs s (1, w) = true
  · rw [if_pos hok] at h ⊢
    by_cases hn : (lxAt xs (s.1 + 1)).kind = 2 ∧ 1 ≤ (lxAt xs (s.1 + 1)).num
    · rw [if_pos hn] at h ⊢
      have hm := took_word hc hw (s := s) (by rw [(next_of_ok hok).1])
      have hne : (lxAt xs (s.1 + 1)).kind ≠ 0 := by rw [hn.1]; decide
      have h2 : Took xs (s.1 + 1) (s.1 + 2) [nuT (lxAt xs (s.1 + 1)).num] := Took.one (lxAt_lt hne) (bareP_num (hc.at_ hne) hn.1)
      refine ⟨hm.1, ?_, by simp only; omega⟩
      simp only [partToks]
      rw [if_pos (by omega)]
      exact hm.2.2.2.trans h2
    · rw [if_neg hn] at h
      cases h
  · rw [if_neg hok] at h ⊢
    refine ⟨h, ?_, Int.le_refl _⟩
    simp only [partToks]
    rw [if_neg (by simp)]
    rfl
theorem stg_inv {xs : List Lx} (hc : CanonP xs) {s : Nat × Bool} (h : (stgS xs s).2.2 = false) : s.2 = false ∧ Took xs s.1 (stgS xs s).2.1 (stgToks (stgS xs s).1) := by
  have h8 := took_mark hc (t := [59]) (by decide) (s := stg7 xs s) h
  have h7 := took_num hc (s := stg6 xs s) h8.1
  have h6 := took_mark hc (t := [45]) (by decide) (s := stg5 xs s) h7.1
  have h5 := took_num hc (s := stg4 xs s) h6.1
  have h4 := took_word hc (t := atW) (by decide) (s := stg3 xs s) h5.1
  have h3 : stg3 xs s = stg2 xs s := by
    have := h4.1
    unfold stg3 at this ⊢
    split at this
    · cases this
    · rename_i hn; rw [if_neg hn]
  rw [h3] at h4
  have h2 := part_inv hc (w := forW) (by decide) (s := stg1 xs s) h4.1
  have h1 := part_inv hc (w := belowW) (by decide) (s := s) h2.1
  have e4 : (stg4 xs s).1 = (stg2 xs s).1 + 1 := by rw [stg4, h3, h4.2.1]
  have e5 : (stg5 xs s).1 = (stg2 xs s).1 + 1 + 1 := by rw [stg5, h5.2.1, e4]
  have e6 : (stg6 xs s).1 = (stg2 xs s).1 + 1 + 1 + 1 := by rw [stg6, h6.2.1, e5]
  have e7 : (stg7 xs s).1 = (stg2 xs s).1 + 1 + 1 + 1 + 1 := by rw [stg7, h7.2.1, e6]
  have e8 : (stgS xs s).2.1 = (stg2 xs s).1 + 1 + 1 + 1 + 1 + 1 := by
    have : (stgS xs s).2 = ((stg7 xs s).1 + 1, false) := h8.2.1
    rw [this, e7]
  have t4 := h4.2.2.2
  have t5 := h5.2.2.2
  have t6 := h6.2.2.2
  have t7 := h7.2.2.2
  have t8 := h8.2.2.2
  rw [e4] at t5
  rw [e5] at t6
  rw [e6] at t7
  rw [e7] at t8
  refine ⟨h1.1, ?_⟩
  rw [e8]
  have hfin := ((((((h1.2.1).trans h2.2.1).trans t4).trans t5).trans t6).trans t7).trans t8
  simpa [Took, stgToks, stgS, List.append_assoc] using hfin
theorem stgs_inv {xs : List Lx} (hc : CanonP xs) (hend : LxEnds xs) : ∀ (n : Nat) (s : Nat × Bool) (acc : List Stg), xs.length - s.1 ≤ n → s.1 < xs.length → (stgsS xs n s acc).2.2 = false →
    s.2 = false ∧ ∃ rest, (stgsS xs n s acc).1 = acc ++ rest ∧ Took xs s.1 (stgsS xs n s acc).2.1 (rest.flatMap stgToks)
  | 0, s, acc, hn, hs, _ => by omega
  | n + 1, s, acc, hn, hs, h => by
    rw [stgsS] at h ⊢
    by_cases h0 : s.2 = true ∨ (lxAt xs s.1).kind = 0 ∨ lxIs (lxAt xs s.1) 1 scheduleW = true
    · rw [if_pos h0] at h ⊢
      exact ⟨h, [], by simp, by simp [Took]⟩
    · rw [if_neg h0] at h ⊢
      have hb := stgsS_bad _ _ _ h
      have hi := stg_inv hc hb
      have hgt := stgS_gt hb
      have hin : (stgS xs s).2.1 < xs.length := (stg_in hend hs).2.2.2.2.2.2.2
      obtain ⟨_, rest, r1, r2⟩ := stgs_inv hc hend n (stgS xs s).2 (acc ++ [(stgS xs s).1]) (by omega) hin h
      refine ⟨hi.1, (stgS xs s).1 :: rest, by rw [r1]; simp, ?_⟩
      rw [List.flatMap_cons]
      exact hi.2.trans r2
theorem sc_inv {xs : List Lx} (hc : CanonP xs) (hend : LxEnds xs) {s : Nat × Bool} (hs : s.1 < xs.length) (h : (scS xs s).2.2 = false) : s.2 = false ∧ Took xs s.1 (scS xs s).2.1 (scToks (scS xs s).1) := by
  have hin := (sc_in hend hs).2.2.2.2
  obtain ⟨h5', rest, r1, r2⟩ := stgs_inv hc hend xs.length (sc5 xs s) [] (by omega) hin h
  have h5 := took_mark hc (t := [58]) (by decide) (s := sc4 xs s) h5'
  have h4 := took_num hc (s := sc3 xs s) h5.1
  have h3 := took_word hc (t := rampW) (by decide) (s := sc2 xs s) h4.1
  have h2 := took_name hc (s := sc1 xs s) h3.1
  have h1 := took_word hc (t := scheduleW) (by decide) (s := s) h2.1
  have e1 : (sc1 xs s).1 = s.1 + 1 := by rw [sc1, h1.2.1]
  have e2 : (sc2 xs s).1 = s.1 + 1 + 1 := by rw [sc2, h2.2.1, e1]
  have e3 : (sc3 xs s).1 = s.1 + 1 + 1 + 1 := by rw [sc3, h3.2.1, e2]
  have e4 : (sc4 xs s).1 = s.1 + 1 + 1 + 1 + 1 := by rw [sc4, h4.2.1, e3]
  have e5 : (sc5 xs s).1 = s.1 + 1 + 1 + 1 + 1 + 1 := by rw [sc5, h5.2.1, e4]
  have t1 := h1.2.2.2
  have t2 := h2.2.2.2
  have t3 := h3.2.2.2
  have t4 := h4.2.2.2
  have t5 := h5.2.2.2
  rw [e1] at t2
  rw [e2] at t3
  rw [e3] at t4
  rw [e4] at t5
  rw [e5] at r2
  have hfin := ((((t1.trans t2).trans t3).trans t4).trans t5).trans r2
  refine ⟨h1.1, ?_⟩
  have hst : (scS xs s).1.stages = rest := by rw [scS]; simpa using r1
  have htk : scToks (scS xs s).1 = [nmT scheduleW, nmT (lexS xs (sc1 xs s) (1, [])).text, nmT rampW, nuT (lexS xs (sc3 xs s) (2, [])).num, mkT [58]] ++ rest.flatMap stgToks := by
    rw [scToks, hst]; rfl
  rw [htk]
  show Took xs s.1 (stgsS xs xs.length (sc5 xs s) []).2.1 _
  simpa [Took, List.append_assoc] using hfin
theorem scsAll_inv {ys : List Lx} {pe : Int} (hk : ∀ y ∈ ys, y.kind ≠ 0) (hc : CanonP (ys ++ [lxEnd pe])) (hend : LxEnds (ys ++ [lxEnd pe])) : ∀ (n k : Nat) (acc : List Sc), (ys ++ [lxEnd pe]).length - k ≤ n → k < (ys ++ [lxEnd pe]).length → validP acc = true → (scsAll (ys ++ [lxEnd pe]) n k acc).2.1 = 0 →
    ∃ rest, scsAll (ys ++ [lxEnd pe]) n k acc = (acc ++ rest, 0, 0) ∧ validP (acc ++ rest) = true ∧ ((ys ++ [lxEnd pe]).drop k).map Lx.bare = rest.flatMap scToks ++ [(lxEnd 0).bare]
  | 0, k, acc, hn, hs, _, _ => by omega
  | n + 1, k, acc, hn, hs, hv, h => by
    rw [scsAll] at h ⊢
    by_cases h0 : (lxAt (ys ++ [lxEnd pe]) k).kind = 0
    · rw [if_pos h0]
      refine ⟨[], by simp, by simpa using hv, ?_⟩
      have hky : k = ys.length := by
        rw [List.length_append, List.length_singleton] at hs
        by_cases hlt : k < ys.length
        · rw [lxAt, List.getElem?_append_left hlt, List.getElem?_eq_getElem hlt] at h0
          exact absurd h0 (hk _ (List.getElem_mem hlt))
        · omega
      rw [hky, List.drop_left]
      rfl
    · rw [if_neg h0] at h ⊢
      by_cases h1 : (scS (ys ++ [lxEnd pe]) (k, false)).2.2 = true
      · rw [if_pos h1] at h
        exact absurd (show (5 : Int) = 0 from h) (by decide)
      · rw [if_neg h1] at h ⊢
        have h1f : (scS (ys ++ [lxEnd pe]) (k, false)).2.2 = false := by simpa using h1
        by_cases h2 : lastErr acc (scS (ys ++ [lxEnd pe]) (k, false)).1 ≠ 0
        · rw [if_pos h2] at h
          exact absurd h h2
        · rw [if_neg h2] at h ⊢
          have hv2 := lastErr_valid hv (Decidable.not_not.1 h2)
          have hin := scS_in hend (s := (k, false)) hs
          have hgt := scS_gt h1f
          have ht := (sc_inv hc hend (s := (k, false)) hs h1f).2
          simp only at hgt
          obtain ⟨rest, r1, r2, r3⟩ := scsAll_inv hk hc hend n _ _ (by omega) hin hv2 h
          refine ⟨(scS (ys ++ [lxEnd pe]) (k, false)).1 :: rest, by rw [r1]; simp, by simpa using r2, ?_⟩
          have ht' : ((ys ++ [lxEnd pe]).drop k).map Lx.bare = _ := ht
          rw [ht', r3, List.flatMap_cons, List.append_assoc]
/-- What is parsed is valid, and has the lexemes of its text. -/
theorem parseSc_printed {s : List UInt8} {l : List Sc} {a : Int} (h : parseSc s = (l, 0, a)) : a = 0 ∧ validP l = true ∧ ∃ xs bs, scanP s = (xs, 0, 0) ∧ scanP (formatSc l) = (bs, 0, 0) ∧ sameP xs bs = true := by
  obtain ⟨xs, e, at_, hsc⟩ : ∃ xs e at_, scanP s = (xs, e, at_) := ⟨_, _, _, rfl⟩
  unfold parseSc at h
  rw [hsc] at h
  simp only at h
  by_cases he : e = 0
  · subst he
    have ha0 : at_ = 0 := by have := (scanP_good s (by rw [hsc])).2.1; rw [hsc] at this; exact this
    subst ha0
    rw [if_neg (by simp)] at h
    obtain ⟨ys, rfl, hk, hok, h8⟩ := scanP_can hsc
    obtain ⟨rest, r1, r2, r3⟩ := scsAll_inv hk (canonP_of (pe := s.length) hok) (endsP hk) _ 0 [] (Nat.sub_le _ _) (by rw [List.length_append, List.length_singleton]; omega) rfl (by rw [h])
    rw [r1] at h
    rw [List.nil_append] at h r2
    simp only [Prod.mk.injEq, true_and] at h
    obtain ⟨rfl, rfl⟩ := h
    refine ⟨rfl, r2, ys ++ [lxEnd s.length], ?_⟩
    have hlen := (formatSc_len r2).1
    have hx := Lexes.scs rest (validP_mem r2)
    have hf : formatSc rest = rest.flatMap scText := by rw [formatSc, if_pos r2]
    rw [← hf] at hx
    obtain ⟨zs, q1, q2, q3⟩ := hx 0
    refine ⟨zs ++ [lxEnd (0 + (formatSc rest).length)], hsc, by rw [scanP_eq _ (by omega), q1], ?_⟩
    rw [sameP_bare, List.map_append, List.map_append, q2]
    rw [List.drop_zero, List.map_append] at r3
    exact r3
  · rw [if_pos he] at h
    exact absurd (congrArg (·.2.1) h) he
theorem scsAll_off {xs : List Lx} {M : Int} (hM : 0 ≤ M) (hx : ∀ x ∈ xs, 0 ≤ x.off ∧ x.off ≤ M) : ∀ (n k : Nat) (acc : List Sc), (0 ≤ (scsAll xs n k acc).2.2 ∧ (scsAll xs n k acc).2.2 ≤ M) ∧ ((scsAll xs n k acc).2.1 ≠ 0 → (scsAll xs n k acc).1 = [])
  | 0, _, _ => ⟨⟨Int.le_refl _, hM⟩, fun h => absurd rfl h⟩
  | n + 1, k, acc => by
    have ho : ∀ j, 0 ≤ (lxAt xs j).off ∧ (lxAt xs j).off ≤ M := fun j => by
      rw [lxAt]
      cases hj : xs[j]? with
      | none => exact ⟨Int.le_refl _, hM⟩
      | some x => exact hx x (List.mem_of_getElem? hj)
    rw [scsAll]
    split
    · exact ⟨⟨Int.le_refl _, hM⟩, fun h => absurd rfl h⟩
    · split
      · exact ⟨ho _, fun _ => rfl⟩
      · split
        · exact ⟨ho _, fun _ => rfl⟩
        · exact scsAll_off hM hx n _ _
theorem parseSc_bad {s : List UInt8} {l : List Sc} {e a : Int} (h : parseSc s = (l, e, a)) (he : e ≠ 0) : l = [] ∧ 0 ≤ a ∧ a ≤ s.length := by
  obtain ⟨xs, e1, at_, hsc⟩ : ∃ xs e at_, scanP s = (xs, e, at_) := ⟨_, _, _, rfl⟩
  unfold parseSc at h
  rw [hsc] at h
  simp only at h
  by_cases h1 : e1 = 0
  · subst h1
    rw [if_neg (by simp)] at h
    have hl := (scanP_good s (by rw [hsc])).1
    rw [scanP_eq s hl] at hsc
    have hb := scanS_bound _ s 0 (Nat.le_refl _)
    rw [hsc] at hb
    have ho := scsAll_off (xs := xs) (M := s.length) (by omega) (fun x hx => by have := hb x hx; omega) xs.length 0 []
    rw [h] at ho
    exact ⟨ho.2 he, ho.1⟩
  · rw [if_pos h1] at h
    simp only [Prod.mk.injEq] at h
    obtain ⟨rfl, rfl, rfl⟩ := h
    refine ⟨rfl, ?_⟩
    by_cases h8 : 8000 < s.length
    · rw [scanP, if_pos h8] at hsc
      simp only [Prod.mk.injEq] at hsc
      obtain ⟨_, _, rfl⟩ := hsc
      omega
    · rw [scanP_eq s (by omega)] at hsc
      obtain ⟨k, hk1, hk2, _⟩ := scanS_bad _ s 0 (Nat.le_refl _) (by rw [hsc]; exact h1)
      rw [hsc] at hk2
      have := congrArg (·.2.2) hk2
      simp only at this
      omega

end Saw
