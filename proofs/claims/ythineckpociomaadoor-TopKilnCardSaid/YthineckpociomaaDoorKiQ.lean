/-
  Plain: the run of a kiln, and what a shorter run is of a longer one (packages kiln, charge).
-/
import Derived.Test.YthineckpociomaaDoorKiP
namespace Saw

/-- The items and numbers of a kiln that stands. -/
structure KiOk (sc : Sc) (s : Sp) (k : Ki) : Prop where
  items : ∀ x ∈ k.items, ClOk x.2 ∧ 1 ≤ x.1 ∧ x.1 ≤ 600
  len : 0 < k.items.length ∧ k.items.length ≤ 1024
  temp : 0 ≤ k.cm.temp ∧ k.cm.temp ≤ s.temp
  dep : 0 ≤ k.cm.dep ∧ k.cm.dep ≤ s.depress
  stage : 0 ≤ k.stage ∧ k.stage ≤ sc.stages.length
  inStage : 0 ≤ k.inStage ∧ k.inStage ≤ k.ticks
  held : 0 ≤ k.held ∧ k.held ≤ k.ticks
/-- What a species and a schedule are known by. -/
structure SsOk (sc : Sc) (s : Sp) : Prop where
  sp : SpOk s
  temp : 200 ≤ s.temp ∧ s.temp ≤ 1200
  dep : 100 ≤ s.depress ∧ s.depress ≤ 400
  grad : 0 ≤ s.grad ∧ s.grad ≤ 20000
  stages : ∀ x ∈ sc.stages, soundP x = true
  len : sc.stages.length ≤ 12
  ramp : 1 ≤ sc.ramp ∧ sc.ramp ≤ 1200
theorem driedP_len (s : Sp) (a : Cm) (fan : Bool) (l : List (Int × Cl)) : (driedP s a fan l).length = l.length := List.length_map _
theorem driedP_at {s : Sp} {a : Cm} {fan : Bool} {l : List (Int × Cl)} {i : Nat} {x : Int × Cl} (h : l[i]? = some x) : (driedP s a fan l)[i]? = some (x.1, tickP x.2 s x.1 a fan) := by
  rw [driedP, List.getElem?_map, h]; rfl
theorem itemsP_or (s : Sp) (a : Cm) (fan : Bool) (l : List (Int × Cl)) : itemsP s a fan l = driedP s a false l ∨ (itemsP s a fan l = driedP s a fan l ∧ steepP s (driedP s a fan l) l = false) := by
  unfold itemsP holdP
  cases fan with
  | false => left; rfl
  | true =>
    cases h : steepP s (driedP s a true l) l with
    | true => left; rfl
    | false => right; exact ⟨rfl, rfl⟩
theorem itemsP_len (s : Sp) (a : Cm) (fan : Bool) (l : List (Int × Cl)) : (itemsP s a fan l).length = l.length := by
  rcases itemsP_or s a fan l with h | ⟨h, _⟩ <;> rw [h, driedP_len]
theorem itemsP_at {s : Sp} {a : Cm} {fan : Bool} {l : List (Int × Cl)} (hg : 0 ≤ s.grad) (hl : ∀ x ∈ l, ClOk x.2 ∧ 1 ≤ x.1 ∧ x.1 ≤ 600) {i : Nat} {x : Int × Cl} (h : l[i]? = some x) :
    ∃ y, (itemsP s a fan l)[i]? = some (x.1, y) ∧ ClOk y ∧ x.2.stress ≤ y.stress ∧ gradP y ≤ max s.grad (gradP x.2) := by
  have hx := (hl x (List.mem_of_getElem? h)).1
  rcases itemsP_or s a fan l with he | ⟨he, hs⟩
  · rw [he]
    have := still_grad hx s x.1 a
    exact ⟨_, driedP_at h, (tickP_ok hx s x.1 a false).1, (tickP_ok hx s x.1 a false).2, by omega⟩
  · rw [he]
    refine ⟨_, driedP_at h, (tickP_ok hx s x.1 a fan).1, (tickP_ok hx s x.1 a fan).2, ?_⟩
    have hz : ((driedP s a fan l).zip l)[i]? = some ((x.1, tickP x.2 s x.1 a fan), x) := by
      rw [List.getElem?_zip_eq_some]; exact ⟨driedP_at h, h⟩
    have hf := List.any_eq_false.1 hs _ (List.mem_of_getElem? hz)
    simp only [steepOf, Bool.and_eq_true, decide_eq_true_eq] at hf
    omega
theorem itemsP_ok {s : Sp} {a : Cm} {fan : Bool} {l : List (Int × Cl)} (hg : 0 ≤ s.grad) (hl : ∀ x ∈ l, ClOk x.2 ∧ 1 ≤ x.1 ∧ x.1 ≤ 600) : ∀ x ∈ itemsP s a fan l, ClOk x.2 ∧ 1 ≤ x.1 ∧ x.1 ≤ 600 := by
  intro x hx
  obtain ⟨i, hi⟩ := List.getElem?_of_mem hx
  have hlt := (List.getElem?_eq_some_iff.1 hi).1
  rw [itemsP_len] at hlt
  obtain ⟨y, h1, h2, _⟩ := itemsP_at (a := a) (fan := fan) hg hl (List.getElem?_eq_getElem hlt)
  rw [h1] at hi
  injection hi with hi
  subst hi
  exact ⟨h2, (hl _ (List.getElem_mem hlt)).2⟩
theorem targetP_in (sc : Sc) (stage maxT maxD : Int) (ht : 0 ≤ maxT) (hd : 0 ≤ maxD) : (targetP sc stage maxT maxD).1 ≤ maxT ∧ (targetP sc stage maxT maxD).2 ≤ maxD := by
  unfold targetP
  split
  · exact ⟨ht, hd⟩
  · simp only; omega
theorem endsSc_in (sc : Sc) (stage ticks mean : Int) (h : (endsSc sc stage ticks mean).2 = true) : (endsSc sc stage ticks mean).1 = stage + 1 ∧ stage < sc.stages.length := by
  unfold endsSc at h ⊢
  split at h
  · cases h
  · rename_i h1
    rw [if_neg h1]
    split at h
    · rename_i h2
      rw [if_pos h2]
      exact ⟨rfl, by omega⟩
    · cases h
theorem stepK_ok {sc : Sc} {s : Sp} {k : Ki} (fl : List Int) (hs : SsOk sc s) (h : KiOk sc s k) : KiOk sc s (stepK sc s k fl) := by
  have ht := targetP_in sc k.stage s.temp s.depress (by have := hs.temp; omega) (by have := hs.dep; omega)
  have hc := nextCm_in (c := k.cm) (t := ⟨(targetP sc k.stage s.temp s.depress).1, (targetP sc k.stage s.temp s.depress).2⟩) (ramp := sc.ramp) (fl := fl) hs.temp hs.dep h.temp.2 h.dep.2 ht.1 ht.2
  have h1 := h.stage
  have h2 := h.inStage
  have h3 := h.held
  refine ⟨itemsP_ok hs.grad.1 h.items, by show 0 < (stepItems sc s k fl).length ∧ (stepItems sc s k fl).length ≤ 1024; rw [stepItems, itemsP_len]; exact h.len, ⟨hc.1, hc.2.1⟩, hc.2.2, ?_, ?_, ?_⟩
  · show 0 ≤ (if (stepEnds sc s k fl).2 = true then (stepEnds sc s k fl).1 else k.stage) ∧ (if (stepEnds sc s k fl).2 = true then (stepEnds sc s k fl).1 else k.stage) ≤ _
    split
    · rename_i he
      have := endsSc_in _ _ _ _ he
      unfold stepEnds
      omega
    · exact h1
  · show 0 ≤ (if (stepEnds sc s k fl).2 = true then 0 else k.inStage + 1) ∧ (if (stepEnds sc s k fl).2 = true then 0 else k.inStage + 1) ≤ k.ticks + 1
    split <;> omega
  · show 0 ≤ (if holdP s (stepCm sc s k fl) (!fl.contains 2) k.items = true then k.held + 1 else k.held) ∧ (if holdP s (stepCm sc s k fl) (!fl.contains 2) k.items = true then k.held + 1 else k.held) ≤ k.ticks + 1
    split <;> omega
theorem stepK_more {sc : Sc} {s : Sp} {k : Ki} (fl : List Int) : k.stage ≤ (stepK sc s k fl).stage ∧ k.held ≤ (stepK sc s k fl).held ∧ (stepK sc s k fl).ticks = k.ticks + 1 := by
  refine ⟨?_, ?_, rfl⟩
  · show k.stage ≤ (if (stepEnds sc s k fl).2 = true then (stepEnds sc s k fl).1 else k.stage)
    split
    · rename_i he
      have := endsSc_in _ _ _ _ he
      unfold stepEnds
      omega
    · omega
  · show k.held ≤ (if holdP s (stepCm sc s k fl) (!fl.contains 2) k.items = true then k.held + 1 else k.held)
    split <;> omega

/-- The greatest gradient. -/
def steepest (l : List (Int × Cl)) : Int :=
  match l with
  | [] => 0
  | x :: r => r.foldl (fun g y => max g (gradP y.2)) (gradP x.2)
theorem fold_le {m : Int} : ∀ (r : List (Int × Cl)) (g : Int), g ≤ m → (∀ y ∈ r, gradP y.2 ≤ m) → r.foldl (fun g y => max g (gradP y.2)) g ≤ m
  | [], g, hg, _ => hg
  | y :: r, g, hg, h => fold_le r _ (by have := h y (List.mem_cons_self ..); show max g (gradP y.2) ≤ m; omega) (fun z hz => h z (List.mem_cons_of_mem _ hz))
theorem steepest_le {m : Int} {l : List (Int × Cl)} (h0 : 0 ≤ m) (h : ∀ y ∈ l, gradP y.2 ≤ m) : steepest l ≤ m := by
  cases l with
  | nil => exact h0
  | cons x r => exact fold_le r _ (h x (List.mem_cons_self ..)) (fun z hz => h z (List.mem_cons_of_mem _ hz))

/-- A fault. -/
structure Fa where
  kind : Int
  fro : Int
  upto : Int
def faultsAt (fs : List Fa) (t : Int) : List Int := (fs.filter fun f => decide (f.fro ≤ t) && decide (t < f.upto)).map (·.kind)
/-- A run: the kiln, the hottest climate, the greatest gradient. -/
structure Ru where
  k : Ki
  hot : Cm
  grad : Int
def stepR (sc : Sc) (s : Sp) (fs : List Fa) (t : Int) (r : Ru) : Ru :=
  { k := stepK sc s r.k (faultsAt fs t), hot := ⟨max r.hot.temp (stepK sc s r.k (faultsAt fs t)).cm.temp, max r.hot.dep (stepK sc s r.k (faultsAt fs t)).cm.dep⟩, grad := max r.grad (steepest (stepK sc s r.k (faultsAt fs t)).items) }
def runGo (sc : Sc) (s : Sp) (fs : List Fa) : Nat → Int → Ru → Ru
  | 0, _, r => r
  | n + 1, t, r => if r.k.stage = sc.stages.length then r else runGo sc s fs n (t + 1) (stepR sc s fs t r)
def startK (its : List (Int × Cl)) : Ki := ⟨its, ⟨200, 100⟩, 0, 0, 0, 0⟩
def startR (its : List (Int × Cl)) : Ru := ⟨startK its, ⟨200, 100⟩, steepest its⟩
def runP (sc : Sc) (s : Sp) (fs : List Fa) (n : Nat) (its : List (Int × Cl)) : Ru := runGo sc s fs n 0 (startR its)

/-- What holds along a run. -/
structure RuOk (sc : Sc) (s : Sp) (its : List (Int × Cl)) (m : Int) (r : Ru) : Prop where
  k : KiOk sc s r.k
  temp : r.hot.temp ≤ s.temp
  dep : r.hot.dep ≤ s.depress
  grad : r.grad ≤ m
  len : r.k.items.length = its.length
  at_ : ∀ (i : Nat) (x : Int × Cl), its[i]? = some x → ∃ y, r.k.items[i]? = some (x.1, y) ∧ ClOk y ∧ x.2.stress ≤ y.stress ∧ gradP y ≤ m
theorem stepR_ok {sc : Sc} {s : Sp} {fs : List Fa} {t : Int} {its : List (Int × Cl)} {m : Int} {r : Ru} (hs : SsOk sc s) (hm : s.grad ≤ m) (h : RuOk sc s its m r) : RuOk sc s its m (stepR sc s fs t r) := by
  have hk := stepK_ok (faultsAt fs t) hs h.k
  have hg := hs.grad
  have hat : ∀ (i : Nat) (x : Int × Cl), its[i]? = some x → ∃ y, (stepK sc s r.k (faultsAt fs t)).items[i]? = some (x.1, y) ∧ ClOk y ∧ x.2.stress ≤ y.stress ∧ gradP y ≤ m := by
    intro i x hx
    obtain ⟨y, h1, h2, h3, h4⟩ := h.at_ i x hx
    obtain ⟨z, g1, g2, g3, g4⟩ := itemsP_at (a := stepCm sc s r.k (faultsAt fs t)) (fan := !(faultsAt fs t).contains 2) hg.1 h.k.items h1
    exact ⟨z, g1, g2, Int.le_trans h3 g3, by simp only at g4; omega⟩
  have hlen : (stepK sc s r.k (faultsAt fs t)).items.length = its.length := by
    show (stepItems sc s r.k (faultsAt fs t)).length = _
    rw [stepItems, itemsP_len, h.len]
  refine ⟨hk, ?_, ?_, ?_, hlen, hat⟩
  · have := hk.temp; have := h.temp; show max _ _ ≤ _; omega
  · have := hk.dep; have := h.dep; show max _ _ ≤ _; omega
  · have h1 : steepest (stepK sc s r.k (faultsAt fs t)).items ≤ m := by
      refine steepest_le (by omega) fun y hy => ?_
      obtain ⟨i, hi⟩ := List.getElem?_of_mem hy
      have hlt := (List.getElem?_eq_some_iff.1 hi).1
      rw [hlen] at hlt
      obtain ⟨z, g1, _, _, g4⟩ := hat i _ (List.getElem?_eq_getElem hlt)
      rw [g1] at hi
      injection hi with hi
      subst hi
      exact g4
    have := h.grad
    show max _ _ ≤ _
    omega
theorem runGo_ok {sc : Sc} {s : Sp} {fs : List Fa} {its : List (Int × Cl)} {m : Int} (hs : SsOk sc s) (hm : s.grad ≤ m) : ∀ (n : Nat) (t : Int) (r : Ru), RuOk sc s its m r → RuOk sc s its m (runGo sc s fs n t r)
  | 0, _, _, h => h
  | n + 1, t, r, h => by
    rw [runGo]
    split
    · exact h
    · exact runGo_ok hs hm n (t + 1) _ (stepR_ok hs hm h)
theorem start_ok {sc : Sc} {s : Sp} {its : List (Int × Cl)} {m : Int} (hs : SsOk sc s) (hm : s.grad ≤ m) (hi : ∀ x ∈ its, ClOk x.2 ∧ 1 ≤ x.1 ∧ x.1 ≤ 600) (hl : 0 < its.length ∧ its.length ≤ 1024) (hg : ∀ x ∈ its, gradP x.2 ≤ m) : RuOk sc s its m (startR its) := by
  have ht := hs.temp
  have hd := hs.dep
  have h0 := hs.grad
  refine ⟨⟨hi, hl, ⟨show (0 : Int) ≤ 200 by decide, ht.1⟩, ⟨show (0 : Int) ≤ 100 by decide, hd.1⟩, ⟨Int.le_refl _, Int.natCast_nonneg _⟩, ⟨Int.le_refl _, Int.le_refl _⟩, ⟨Int.le_refl _, Int.le_refl _⟩⟩, ht.1, hd.1, steepest_le (by omega) hg, rfl, fun i x hx => ?_⟩
  have hx' := List.mem_of_getElem? hx
  exact ⟨x.2, hx, (hi x hx').1, Int.le_refl _, hg x hx'⟩
/-- A run goes on. -/
structure RuLe (a b : Ru) : Prop where
  ticks : a.k.ticks ≤ b.k.ticks
  held : a.k.held ≤ b.k.held
  stage : a.k.stage ≤ b.k.stage
  grad : a.grad ≤ b.grad
theorem RuLe.refl (a : Ru) : RuLe a a := ⟨Int.le_refl _, Int.le_refl _, Int.le_refl _, Int.le_refl _⟩
theorem RuLe.trans {a b c : Ru} (h : RuLe a b) (g : RuLe b c) : RuLe a c := ⟨Int.le_trans h.1 g.1, Int.le_trans h.2 g.2, Int.le_trans h.3 g.3, Int.le_trans h.4 g.4⟩
theorem stepR_le (sc : Sc) (s : Sp) (fs : List Fa) (t : Int) (r : Ru) : RuLe r (stepR sc s fs t r) := by
  have h := stepK_more (sc := sc) (s := s) (k := r.k) (faultsAt fs t)
  exact ⟨by show _ ≤ (stepK sc s r.k (faultsAt fs t)).ticks; omega, h.2.1, h.1, by show _ ≤ max _ _; omega⟩
theorem runGo_le (sc : Sc) (s : Sp) (fs : List Fa) : ∀ (n : Nat) (t : Int) (r : Ru), RuLe r (runGo sc s fs n t r) ∧ (runGo sc s fs n t r).k.ticks ≤ r.k.ticks + n
  | 0, _, r => ⟨RuLe.refl r, by show r.k.ticks ≤ _; omega⟩
  | n + 1, t, r => by
    rw [runGo]
    split
    · exact ⟨RuLe.refl r, by omega⟩
    · obtain ⟨h1, h2⟩ := runGo_le sc s fs n (t + 1) (stepR sc s fs t r)
      have h3 : (stepR sc s fs t r).k.ticks = r.k.ticks + 1 := rfl
      exact ⟨(stepR_le sc s fs t r).trans h1, by omega⟩
theorem runGo_less (sc : Sc) (s : Sp) (fs : List Fa) : ∀ (n m : Nat) (t : Int) (r : Ru), n ≤ m → RuLe (runGo sc s fs n t r) (runGo sc s fs m t r) ∧ (runGo sc s fs n t r).k.ticks = min (r.k.ticks + n) (runGo sc s fs m t r).k.ticks
  | 0, m, t, r, _ => by
    have h := runGo_le sc s fs m t r
    have h1 := h.1.ticks
    exact ⟨h.1, by show r.k.ticks = _; omega⟩
  | n + 1, 0, t, r, h => absurd h (by omega)
  | n + 1, m + 1, t, r, h => by
    rw [runGo, runGo]
    split
    · exact ⟨RuLe.refl r, by omega⟩
    · obtain ⟨h1, h2⟩ := runGo_less sc s fs n m (t + 1) (stepR sc s fs t r) (by omega)
      have h3 : (stepR sc s fs t r).k.ticks = r.k.ticks + 1 := rfl
      exact ⟨h1, by omega⟩
end Saw
