/-
  Plain: cells of wood, climates, the kiln and its run (packages moist, air, curve, kiln, charge).
-/
import Derived.Test.YthineckpociomaaDoorScP
namespace Saw

/-- A cell of wood. -/
structure Cl where
  surf : Int
  core : Int
  stress : Int
deriving DecidableEq
/-- A climate. -/
structure Cm where
  temp : Int
  dep : Int
deriving DecidableEq
def checkCl (c : Cl) : Int := if c.surf < 0 ∨ 20000 < c.surf ∨ c.core < 0 ∨ 20000 < c.core then 25 else if c.stress < 0 ∨ 1099511627776 < c.stress then 9 else 0
def ClOk (c : Cl) : Prop := 0 ≤ c.surf ∧ c.surf ≤ 20000 ∧ 0 ≤ c.core ∧ c.core ≤ 20000 ∧ 0 ≤ c.stress ∧ c.stress ≤ 1099511627776
theorem checkCl_ok {c : Cl} : checkCl c = 0 ↔ ClOk c := by
  unfold checkCl ClOk
  constructor
  · intro h
    split at h
    · cases h
    · split at h
      · cases h
      · omega
  · intro h
    rw [if_neg (by omega), if_neg (by omega)]
def gradP (c : Cl) : Int := if checkCl c = 0 then c.core - c.surf else 0
theorem gradP_of {c : Cl} (h : ClOk c) : gradP c = c.core - c.surf := if_pos (checkCl_ok.2 h)
def moveP (d k : Int) : Int := max (d * k / 10000) 1
def towardP (a b k : Int) : Int :=
  if clampP k 0 10000 = 0 ∨ a = b then a
  else if b < a then a - moveP (a - b) (clampP k 0 10000) else a + moveP (b - a) (clampP k 0 10000)
theorem clampP_in (n lo hi : Int) (h : lo ≤ hi) : lo ≤ clampP n lo hi ∧ clampP n lo hi ≤ hi := by unfold clampP; (repeat' split) <;> omega
theorem moveP_le {d k : Int} (h : 1 ≤ d) (_h0 : 0 ≤ k) (h1 : k ≤ 10000) : 1 ≤ moveP d k ∧ moveP d k ≤ d := by
  unfold moveP
  have h2 : d * k ≤ d * 10000 := Int.mul_le_mul_of_nonneg_left h1 (by omega)
  have h3 : d * k / 10000 ≤ d := by
    have := Int.ediv_le_ediv (c := 10000) (by decide) h2
    rw [Int.mul_ediv_cancel _ (by decide)] at this
    exact this
  omega
theorem towardP_down {a b : Int} (k : Int) (h : b ≤ a) : b ≤ towardP a b k ∧ towardP a b k ≤ a := by
  unfold towardP
  have h0 := clampP_in k 0 10000 (by decide)
  split
  · omega
  · split
    · have := moveP_le (d := a - b) (k := clampP k 0 10000) (by omega) h0.1 h0.2
      omega
    · omega
theorem towardP_up {a b : Int} (k : Int) (h : a ≤ b) : a ≤ towardP a b k ∧ towardP a b k ≤ b := by
  unfold towardP
  have h0 := clampP_in k 0 10000 (by decide)
  split
  · omega
  · rename_i hn
    split
    · omega
    · have := moveP_le (d := b - a) (k := clampP k 0 10000) (by omega) h0.1 h0.2
      omega

/-- The value of a curve behind its point p. -/
def atGo (x : Int) : Int × Int → List (Int × Int) → Int
  | p, [] => p.2
  | p, q :: r => if x ≤ q.1 then p.2 + (q.2 - p.2) * (x - p.1) / (q.1 - p.1) else atGo x q r
def atP (c : List (Int × Int)) (x : Int) : Int :=
  match c with
  | [] => 0
  | p :: r => if x ≤ p.1 then p.2 else atGo x p r
/-- Points in order whose numbers are within limits. -/
def upFrom : Int × Int → List (Int × Int) → Prop
  | _, [] => True
  | p, q :: r => p.1 < q.1 ∧ upFrom q r
def CurveOk (c : List (Int × Int)) : Prop := 0 < c.length ∧ c.length ≤ 16 ∧ (∀ p ∈ c, -1000000 ≤ p.1 ∧ p.1 ≤ 1000000 ∧ -1000000 ≤ p.2 ∧ p.2 ≤ 1000000) ∧ ∀ (i : Nat) (p q : Int × Int), c[i]? = some p → c[i + 1]? = some q → p.1 < q.1
theorem floor_in {d e n m : Int} (h0 : 0 ≤ n) (h1 : n ≤ m) (hm : 0 < m) (he : e = d * n / m) : (0 ≤ d → 0 ≤ e ∧ e ≤ d) ∧ (d ≤ 0 → d ≤ e ∧ e ≤ 0) := by
  subst he
  refine ⟨fun hd => ⟨Int.ediv_nonneg (Int.mul_nonneg hd h0) (by omega), ?_⟩, fun hd => ⟨?_, ?_⟩⟩
  · have h2 : d * n ≤ d * m := Int.mul_le_mul_of_nonneg_left h1 hd
    have := Int.ediv_le_ediv (c := m) hm h2
    rw [Int.mul_ediv_cancel _ (by omega)] at this
    exact this
  · have h2 : d * m ≤ d * n := Int.mul_le_mul_of_nonpos_left hd h1
    have := Int.ediv_le_ediv (c := m) hm h2
    rw [Int.mul_ediv_cancel _ (by omega)] at this
    exact this
  · have h2 : d * n ≤ 0 := Int.mul_nonpos_of_nonpos_of_nonneg hd h0
    have := Int.ediv_le_ediv (c := m) hm h2
    rw [Int.zero_ediv] at this
    exact this
theorem atGo_in {lo hi x : Int} : ∀ (r : List (Int × Int)) (p : Int × Int), p.1 < x → (∀ (i : Nat) (a b : Int × Int), (p :: r)[i]? = some a → (p :: r)[i + 1]? = some b → a.1 < b.1) → (∀ q ∈ p :: r, lo ≤ q.2 ∧ q.2 ≤ hi) → lo ≤ atGo x p r ∧ atGo x p r ≤ hi
  | [], p, _, _, h => h p (List.mem_cons_self ..)
  | q :: r, p, hx, hu, h => by
    rw [atGo]
    have hp := h p (List.mem_cons_self ..)
    have hq := h q (List.mem_cons_of_mem _ (List.mem_cons_self ..))
    have hpq := hu 0 p q rfl rfl
    split
    · rename_i hxq
      have hf := floor_in (d := q.2 - p.2) (n := x - p.1) (m := q.1 - p.1) (by omega) (by omega) (by omega) rfl
      omega
    · rename_i hxq
      exact atGo_in r q (by omega) (fun i a b h1 h2 => hu (i + 1) a b h1 h2) (fun y hy => h y (List.mem_cons_of_mem _ hy))
theorem atP_in {lo hi x : Int} {c : List (Int × Int)} (hc : CurveOk c) (h : ∀ q ∈ c, lo ≤ q.2 ∧ q.2 ≤ hi) : lo ≤ atP c x ∧ atP c x ≤ hi := by
  cases c with
  | nil => exact absurd hc.1 (by decide)
  | cons p r =>
    rw [atP]
    split
    · exact h p (List.mem_cons_self ..)
    · exact atGo_in r p (by omega) hc.2.2.2 h

/-- The table of equilibrium moisture contents. -/
def tabX : List Int := [200, 400, 600, 800, 1000, 1200]
def tabY : List Int := [0, 20, 50, 100, 200, 300, 400]
def tabV : List (List Int) := [[2800, 2200, 1750, 1250, 750, 480, 390], [2700, 2100, 1650, 1150, 680, 440, 350], [2600, 2000, 1550, 1060, 610, 400, 310], [2500, 1900, 1450, 980, 550, 360, 280], [2400, 1800, 1360, 900, 500, 330, 250], [2300, 1700, 1270, 830, 450, 300, 220]]
def valsP (d : Int) : List Int := tabV.map fun row => atP (tabY.zip row) d
def emcP (t d : Int) : Int := atP (tabX.zip (valsP d)) t
def curveB (c : List (Int × Int)) : Bool := decide (0 < c.length) && decide (c.length ≤ 16) && (c.all fun p => decide (-1000000 ≤ p.1) && decide (p.1 ≤ 1000000) && decide (-1000000 ≤ p.2) && decide (p.2 ≤ 1000000)) && (c.zip c.tail).all fun p => decide (p.1.1 < p.2.1)
theorem curve_of {c : List (Int × Int)} (h : curveB c = true) : CurveOk c := by
  simp only [curveB, Bool.and_eq_true, decide_eq_true_eq, List.all_eq_true] at h
  obtain ⟨⟨⟨h1, h2⟩, h3⟩, h4⟩ := h
  refine ⟨h1, h2, fun p hp => by have := h3 p hp; omega, fun i p q hp hq => ?_⟩
  refine h4 (p, q) (List.mem_of_getElem? (i := i) ?_)
  rw [List.getElem?_zip_eq_some]
  exact ⟨hp, by rw [List.getElem?_tail]; exact hq⟩
theorem row_curve {row : List Int} (h : row ∈ tabV) : CurveOk (tabY.zip row) ∧ ∀ q ∈ tabY.zip row, 0 ≤ q.2 ∧ q.2 ≤ 2800 := by
  have h1 : ∀ row ∈ tabV, curveB (tabY.zip row) = true ∧ ((tabY.zip row).all fun q => decide (0 ≤ q.2) && decide (q.2 ≤ 2800)) = true := by decide
  obtain ⟨h2, h3⟩ := h1 row h
  refine ⟨curve_of h2, fun q hq => ?_⟩
  have := List.all_eq_true.1 h3 q hq
  simp only [Bool.and_eq_true, decide_eq_true_eq] at this
  exact this
theorem valsP_in (d : Int) : (valsP d).length = 6 ∧ ∀ v ∈ valsP d, 0 ≤ v ∧ v ≤ 2800 := by
  refine ⟨rfl, fun v hv => ?_⟩
  obtain ⟨row, hr, rfl⟩ := List.mem_map.1 hv
  obtain ⟨h1, h2⟩ := row_curve hr
  exact atP_in h1 h2
theorem zip6 {l : List Int} (h : l.length = 6) (hv : ∀ v ∈ l, 0 ≤ v ∧ v ≤ 2800) : CurveOk (tabX.zip l) ∧ ∀ q ∈ tabX.zip l, 0 ≤ q.2 ∧ q.2 ≤ 2800 := by
  match l, h with
  | [a, b, c, d, e, f], _ =>
    have ha := hv a (by simp)
    have hb := hv b (by simp)
    have hc := hv c (by simp)
    have hd := hv d (by simp)
    have he := hv e (by simp)
    have hf := hv f (by simp)
    refine ⟨⟨Nat.zero_lt_succ _, (show 6 ≤ 16 by decide), ?_, ?_⟩, ?_⟩
    · intro p hp
      simp only [tabX, List.zip_cons_cons, List.zip_nil_left, List.mem_cons, List.not_mem_nil, or_false] at hp
      rcases hp with rfl | rfl | rfl | rfl | rfl | rfl <;> simp only <;> omega
    · intro i p q hp hq
      match i with
      | 0 => injection hp with hp; injection hq with hq; subst hp hq; exact (show (200 : Int) < 400 by decide)
      | 1 => injection hp with hp; injection hq with hq; subst hp hq; exact (show (400 : Int) < 600 by decide)
      | 2 => injection hp with hp; injection hq with hq; subst hp hq; exact (show (600 : Int) < 800 by decide)
      | 3 => injection hp with hp; injection hq with hq; subst hp hq; exact (show (800 : Int) < 1000 by decide)
      | 4 => injection hp with hp; injection hq with hq; subst hp hq; exact (show (1000 : Int) < 1200 by decide)
      | i + 5 => cases hq
    · intro p hp
      simp only [tabX, List.zip_cons_cons, List.zip_nil_left, List.mem_cons, List.not_mem_nil, or_false] at hp
      rcases hp with rfl | rfl | rfl | rfl | rfl | rfl <;> simp only <;> omega
theorem vals_curve (d : Int) : CurveOk (tabX.zip (valsP d)) := (zip6 (valsP_in d).1 (valsP_in d).2).1
theorem emcP_in (t d : Int) : 0 ≤ emcP t d ∧ emcP t d ≤ 2800 := atP_in (vals_curve d) (zip6 (valsP_in d).1 (valsP_in d).2).2

/-- A tick of a cell. -/
def airOk (a : Cm) : Prop := 0 ≤ a.temp ∧ a.temp ≤ 1200 ∧ 0 ≤ a.dep ∧ a.dep ≤ 400
def SpOk (s : Sp) : Prop := 1 ≤ s.fast ∧ s.fast ≤ 10000 ∧ 1 ≤ s.slow ∧ s.slow ≤ 10000 ∧ 0 ≤ s.safe ∧ s.safe ≤ 20000
def surfP (c : Cl) (s : Sp) (a : Cm) (fan : Bool) : Int := if fan = true then towardP c.surf (emcP a.temp a.dep) (clampP (s.fast * a.temp / 200) 1 10000) else c.surf
def coreP (c : Cl) (s : Sp) (thick : Int) (a : Cm) (fan : Bool) : Int := towardP c.core (surfP c s a fan) (clampP (s.slow * a.temp * 25 / (200 * thick)) 1 10000)
def tickP (c : Cl) (s : Sp) (thick : Int) (a : Cm) (fan : Bool) : Cl :=
  ⟨surfP c s a fan, coreP c s thick a fan, min (c.stress + max 0 (coreP c s thick a fan - surfP c s a fan - s.safe)) 1099511627776⟩
theorem surfP_in {c : Cl} (h : ClOk c) (s : Sp) (a : Cm) (fan : Bool) : 0 ≤ surfP c s a fan ∧ surfP c s a fan ≤ 20000 := by
  obtain ⟨h1, h2, _⟩ := h
  unfold surfP
  have he := emcP_in a.temp a.dep
  split
  · by_cases hle : c.surf ≤ emcP a.temp a.dep
    · have := towardP_up (clampP (s.fast * a.temp / 200) 1 10000) hle; omega
    · have := towardP_down (clampP (s.fast * a.temp / 200) 1 10000) (show emcP a.temp a.dep ≤ c.surf by omega); omega
  · omega
theorem coreP_in {c : Cl} (h : ClOk c) (s : Sp) (thick : Int) (a : Cm) (fan : Bool) : 0 ≤ coreP c s thick a fan ∧ coreP c s thick a fan ≤ 20000 := by
  have he := surfP_in h s a fan
  obtain ⟨_, _, h1, h2, _⟩ := h
  unfold coreP
  by_cases hle : c.core ≤ surfP c s a fan
  · have := towardP_up (clampP (s.slow * a.temp * 25 / (200 * thick)) 1 10000) hle; omega
  · have := towardP_down (clampP (s.slow * a.temp * 25 / (200 * thick)) 1 10000) (show surfP c s a fan ≤ c.core by omega); omega
theorem tickP_ok {c : Cl} (h : ClOk c) (s : Sp) (thick : Int) (a : Cm) (fan : Bool) : ClOk (tickP c s thick a fan) ∧ c.stress ≤ (tickP c s thick a fan).stress := by
  have h1 := surfP_in h s a fan
  have h2 := coreP_in h s thick a fan
  obtain ⟨_, _, _, _, h5, h6⟩ := h
  unfold ClOk tickP
  simp only
  omega
/-- Without fans a gradient does not rise above 0 or above what it was. -/
theorem still_grad {c : Cl} (h : ClOk c) (s : Sp) (thick : Int) (a : Cm) : gradP (tickP c s thick a false) ≤ max 0 (gradP c) := by
  rw [gradP_of (tickP_ok h s thick a false).1, gradP_of h]
  have hs : surfP c s a false = c.surf := rfl
  show coreP c s thick a false - surfP c s a false ≤ _
  unfold coreP
  rw [hs]
  by_cases hle : c.core ≤ c.surf
  · have := towardP_up (clampP (s.slow * a.temp * 25 / (200 * thick)) 1 10000) hle; omega
  · have := towardP_down (clampP (s.slow * a.temp * 25 / (200 * thick)) 1 10000) (show c.surf ≤ c.core by omega); omega

/-- The next climate. -/
def clampCm (c : Cm) : Cm := ⟨clampP c.temp 0 1200, clampP c.dep 0 400⟩
def goalP (t : Cm) (fl : List Int) : Cm := ⟨if fl.contains 1 = true then 200 else t.temp, if fl.contains 3 = true then 100 else t.dep⟩
def nextCm (c t : Cm) (ramp : Int) (fl : List Int) : Cm :=
  ⟨clampP (goalP (clampCm t) fl).temp ((clampCm c).temp - clampP ramp 0 1200) ((clampCm c).temp + clampP ramp 0 1200), clampP (goalP (clampCm t) fl).dep ((clampCm c).dep - clampP ramp 0 1200) ((clampCm c).dep + clampP ramp 0 1200)⟩
theorem near_in {g c r lo hi : Int} (h1 : lo ≤ g) (h2 : g ≤ hi) (h3 : lo ≤ c) (h4 : c ≤ hi) (h5 : 0 ≤ r) : lo ≤ clampP g (c - r) (c + r) ∧ clampP g (c - r) (c + r) ≤ hi := by
  unfold clampP; (repeat' split) <;> omega
theorem clampP_to {n lo hi x : Int} (_h0 : lo ≤ hi) (hl : lo ≤ x) (h : n ≤ x) : clampP n lo hi ≤ x := by
  unfold clampP; (repeat' split) <;> omega
theorem nextCm_in {c t : Cm} {ramp tx dx : Int} {fl : List Int} (ht : 200 ≤ tx ∧ tx ≤ 1200) (hd : 100 ≤ dx ∧ dx ≤ 400) (h1 : c.temp ≤ tx) (h2 : c.dep ≤ dx) (h3 : t.temp ≤ tx) (h4 : t.dep ≤ dx) :
    0 ≤ (nextCm c t ramp fl).temp ∧ (nextCm c t ramp fl).temp ≤ tx ∧ 0 ≤ (nextCm c t ramp fl).dep ∧ (nextCm c t ramp fl).dep ≤ dx := by
  have r := clampP_in ramp 0 1200 (by decide)
  have c1 := clampP_in c.temp 0 1200 (by decide)
  have c2 := clampP_to (lo := 0) (hi := 1200) (by decide) (by omega) h1
  have c3 := clampP_in c.dep 0 400 (by decide)
  have c4 := clampP_to (lo := 0) (hi := 400) (by decide) (by omega) h2
  have d1 := clampP_in t.temp 0 1200 (by decide)
  have d2 := clampP_to (lo := 0) (hi := 1200) (by decide) (by omega) h3
  have d3 := clampP_in t.dep 0 400 (by decide)
  have d4 := clampP_to (lo := 0) (hi := 400) (by decide) (by omega) h4
  have g1 : 0 ≤ (goalP (clampCm t) fl).temp ∧ (goalP (clampCm t) fl).temp ≤ tx := by
    unfold goalP clampCm
    simp only
    split <;> omega
  have g2 : 0 ≤ (goalP (clampCm t) fl).dep ∧ (goalP (clampCm t) fl).dep ≤ dx := by
    unfold goalP clampCm
    simp only
    split <;> omega
  have n1 := near_in (r := clampP ramp 0 1200) g1.1 g1.2 (show 0 ≤ (clampCm c).temp from c1.1) c2 r.1
  have n2 := near_in (r := clampP ramp 0 1200) g2.1 g2.2 (show 0 ≤ (clampCm c).dep from c3.1) c4 r.1
  exact ⟨n1.1, n1.2, n2.1, n2.2⟩

/-- A kiln. -/
structure Ki where
  items : List (Int × Cl)
  cm : Cm
  stage : Int
  inStage : Int
  ticks : Int
  held : Int
def driedP (s : Sp) (a : Cm) (fan : Bool) (l : List (Int × Cl)) : List (Int × Cl) := l.map fun x => (x.1, tickP x.2 s x.1 a fan)
def steepOf (s : Sp) (p : (Int × Cl) × (Int × Cl)) : Bool := decide (s.grad < gradP p.1.2) && decide (gradP p.2.2 < gradP p.1.2)
def steepP (s : Sp) (l old : List (Int × Cl)) : Bool := (l.zip old).any (steepOf s)
def sumCore (l : List (Int × Cl)) : Int := (l.map fun x => x.2.core).sum
def meanP (l : List (Int × Cl)) : Int := sumCore l / (l.length : Int)
def holdP (s : Sp) (a : Cm) (fan : Bool) (l : List (Int × Cl)) : Bool := fan && steepP s (driedP s a fan l) l
def itemsP (s : Sp) (a : Cm) (fan : Bool) (l : List (Int × Cl)) : List (Int × Cl) := if holdP s a fan l = true then driedP s a false l else driedP s a fan l
def stepCm (sc : Sc) (s : Sp) (k : Ki) (fl : List Int) : Cm := nextCm k.cm ⟨(targetP sc k.stage s.temp s.depress).1, (targetP sc k.stage s.temp s.depress).2⟩ sc.ramp fl
def stepItems (sc : Sc) (s : Sp) (k : Ki) (fl : List Int) : List (Int × Cl) := itemsP s (stepCm sc s k fl) (!fl.contains 2) k.items
def stepEnds (sc : Sc) (s : Sp) (k : Ki) (fl : List Int) : Int × Bool := endsSc sc k.stage (k.inStage + 1) (meanP (stepItems sc s k fl))
/-- A tick of the kiln. -/
def stepK (sc : Sc) (s : Sp) (k : Ki) (fl : List Int) : Ki :=
  { items := stepItems sc s k fl, cm := stepCm sc s k fl,
    stage := if (stepEnds sc s k fl).2 = true then (stepEnds sc s k fl).1 else k.stage,
    inStage := if (stepEnds sc s k fl).2 = true then 0 else k.inStage + 1,
    ticks := k.ticks + 1,
    held := if holdP s (stepCm sc s k fl) (!fl.contains 2) k.items = true then k.held + 1 else k.held }
end Saw
