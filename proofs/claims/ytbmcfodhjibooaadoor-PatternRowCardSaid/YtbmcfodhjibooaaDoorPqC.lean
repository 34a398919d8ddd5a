/-
  Plain: a row of single boards has these boards as the leaves that are not waste.
-/
import Derived.Test.YtbmcfodhjibooaaDoorPqB
import Derived.Test.YtbmcfodhjibooaaDoorPaI
namespace Saw
theorem withP_withP (r : Rc) (k a b c d : Int) : withP (withP r k a b) k c d = withP r k c d := by
  unfold withP
  by_cases h : k = 2 <;> simp [h]
theorem lowP_withP (r : Rc) (k a b : Int) : lowP (withP r k a b) k = a := by
  unfold lowP withP
  by_cases h : k = 2 <;> simp [h]
theorem highP_withP (r : Rc) (k a b : Int) : highP (withP r k a b) k = b := by
  unfold highP withP
  by_cases h : k = 2 <;> simp [h]
theorem withP_self (r : Rc) (k : Int) : withP r k (lowP r k) (highP r k) = r := by
  unfold withP lowP highP
  by_cases h : k = 2 <;> simp [h]
def boardsOf : Nat → Nat → List (List Nd)
  | _, 0 => []
  | i, m + 1 => [⟨1, ((i % 16 : Nat) : Int)⟩] :: boardsOf (i + 1) m
def leavesOf (r : Rc) (axis : Int) : Nat → List (Int × Int) → List Lf
  | _, [] => []
  | i, s :: sp => ⟨withP r axis s.1 s.2, ((i % 16 : Nat) : Int)⟩ :: leavesOf r axis (i + 1) sp
def isBd (x : Lf) : Bool := decide (0 ≤ x.prod)
theorem waste_step (kerf : Int) (tl : List Nd) (x : Plc) (st : List Plc) (h : x.level ≤ 64) : chkL kerf anyB (⟨0, 0⟩ :: tl) (x :: st) = chkL kerf anyB tl st ∧ leavesL kerf (⟨0, 0⟩ :: tl) (x :: st) = ⟨x.rect, -1⟩ :: leavesL kerf tl st := by
  have he : fullErr anyB ⟨0, 0⟩ x = 0 := by
    have hn : nodeErr ⟨0, 0⟩ x = 0 := by
      unfold nodeErr
      rw [if_neg (by simp), if_neg (by omega), if_neg (by simp [ripP])]
    unfold fullErr
    rw [hn]
    simp
  have hp : pushP kerf ⟨0, 0⟩ x st = st := by simp [pushP, ripP]
  refine ⟨?_, ?_⟩
  · rw [chkL, he, hp]; simp
  · rw [leavesL, hp]; simp [leafP]
theorem board_step (kerf : Int) (tl : List Nd) (x : Plc) (st : List Plc) (q : Nat) (hq : q < 16) (h : x.level ≤ 64) : chkL kerf anyB (⟨1, q⟩ :: tl) (x :: st) = chkL kerf anyB tl st ∧ leavesL kerf (⟨1, q⟩ :: tl) (x :: st) = ⟨x.rect, q⟩ :: leavesL kerf tl st := by
  have he : fullErr anyB ⟨1, q⟩ x = 0 := by
    have hn : nodeErr ⟨1, q⟩ x = 0 := by
      unfold nodeErr
      rw [if_neg (by simp), if_neg (by omega), if_neg (by simp [ripP])]
    unfold fullErr
    rw [hn]
    unfold anyB
    simp
    omega
  have hp : pushP kerf ⟨1, q⟩ x st = st := by simp [pushP, ripP]
  refine ⟨?_, ?_⟩
  · rw [chkL, he, hp]; simp
  · rw [leavesL, hp]; simp [leafP]
end Saw
namespace Go.Proofs.YtbmcfodhjibooaaDoor
open Saw
theorem rip_step (r : Rc) (k p edge hi kerf lev : Int) (tl : List Nd) (st : List Plc) (hk : ripP k = true) (h1 : edge < p) (h2 : p < hi) (hl : lev ≤ 64) (hb : -600 ≤ p ∧ p ≤ 600) (hkf : 0 ≤ kerf ∧ kerf ≤ 20) :
    chkL kerf anyB (⟨k, p⟩ :: tl) (⟨withP r k edge hi, lev⟩ :: st) = chkL kerf anyB tl (⟨withP r k edge p, lev + 1⟩ :: ⟨withP r k (min (p + kerf) hi) hi, lev + 1⟩ :: st) ∧
    leavesL kerf (⟨k, p⟩ :: tl) (⟨withP r k edge hi, lev⟩ :: st) = leavesL kerf tl (⟨withP r k edge p, lev + 1⟩ :: ⟨withP r k (min (p + kerf) hi) hi, lev + 1⟩ :: st) := by
  have hc : k = 2 ∨ k = 3 := by
    unfold ripP at hk
    rw [Bool.or_eq_true, beq_iff_eq, beq_iff_eq] at hk
    exact hk
  have hn : nodeErr ⟨k, p⟩ ⟨withP r k edge hi, lev⟩ = 0 := by
    unfold nodeErr
    simp only [lowP_withP, highP_withP]
    rw [if_neg (by omega), if_neg (by omega), if_neg (by omega)]
  have he : fullErr anyB ⟨k, p⟩ ⟨withP r k edge hi, lev⟩ = 0 := by
    unfold fullErr
    rw [hn, if_neg (by simp only; omega)]
  have hend : endP (withP r k edge hi) ⟨k, p⟩ kerf = min (p + kerf) hi := by
    rw [endP, highP_withP]
    show min (Go.IntKind.i64.wrap (p + kerf)) hi = _
    rw [Saw.wrap_small (n := p + kerf) (by omega) (by omega)]
  have hp : pushP kerf ⟨k, p⟩ ⟨withP r k edge hi, lev⟩ st = ⟨withP r k edge p, lev + 1⟩ :: ⟨withP r k (min (p + kerf) hi) hi, lev + 1⟩ :: st := by
    unfold pushP
    simp only [part1, part2, lowP_withP, highP_withP, hend, withP_withP]
    rw [if_pos hk]
  refine ⟨?_, ?_⟩
  · rw [chkL, he, hp]; simp
  · rw [leavesL, hp, leafP, if_neg (by simp only; omega), if_neg (by simp only; omega), List.nil_append]
theorem row_run (r : Rc) (axis kerf hi : Int) (hk : ripP axis = true) (hkf : 0 ≤ kerf ∧ kerf ≤ 20) (hhi : -600 ≤ hi ∧ hi ≤ 600) (nodes : List Nd) : ∀ (sp : List (Int × Int)) (i : Nat) (edge : Int) (ended : Bool) (acc : List Nd),
    -600 ≤ edge → edge ≤ hi → rowGo axis kerf hi sp (boardsOf i sp.length) edge ended acc = (nodes, 0) → ∃ tail, nodes = acc ++ tail ∧ nodes.length ≤ 127 ∧
      (ended = true → sp = [] ∧ tail = []) ∧
      (ended = false → ∀ lev : Int, 2 * lev + tail.length ≤ 129 → chkL kerf anyB tail [⟨withP r axis edge hi, lev⟩] = 0 ∧ (leavesL kerf tail [⟨withP r axis edge hi, lev⟩]).filter isBd = leavesOf r axis i sp) := by
  intro sp
  induction sp with
  | nil =>
    intro i edge ended acc he1 he2 h
    obtain ⟨X, hX⟩ : ∃ X, (if ended = true then acc else acc ++ [⟨0, 0⟩]) = X := ⟨_, rfl⟩
    rw [rowGo, rowEnd, hX] at h
    split at h
    · exact absurd (congrArg Prod.snd h) (by simp)
    · rename_i hl
      injection h with h _
      subst h
      cases ended with
      | true =>
        rw [if_pos rfl] at hX
        subst hX
        exact ⟨[], by simp, by omega, fun _ => ⟨rfl, rfl⟩, fun e => (by cases e)⟩
      | false =>
        rw [if_neg (by decide)] at hX
        subst hX
        refine ⟨_, rfl, by omega, fun e => (by cases e), fun _ lev hlev => ?_⟩
        obtain ⟨q1, q2⟩ := waste_step kerf [] ⟨withP r axis edge hi, lev⟩ [] (by simp at hlev ⊢; omega)
        rw [q1, q2]
        exact ⟨rfl, rfl⟩
  | cons s sp ih =>
    intro i edge ended acc he1 he2 h
    obtain ⟨a, b⟩ := s
    rw [List.length_cons, boardsOf, rowGo] at h
    simp only [List.drop_succ_cons, List.drop_zero, List.headD_cons] at h
    split at h
    · exact absurd (congrArg Prod.snd h) (by simp)
    · rename_i h1
      split at h
      · exact absurd (congrArg Prod.snd h) (by simp)
      · rename_i h2
        split at h
        · exact absurd (congrArg Prod.snd h) (by simp)
        · rename_i h3
          have hen : ended = false := by
            cases ended with
            | true => exact absurd (Or.inl rfl) h2
            | false => rfl
          subst hen
          have hae : a = edge ∨ edge + kerf + 1 ≤ a := by omega
          have hb600 : -600 ≤ b := by omega
          obtain ⟨tail, e1, e2, e3, e4⟩ := ih (i + 1) (min (b + kerf) hi) (decide (b = hi)) _ (by omega) (by omega) h
          refine ⟨gapN axis kerf a edge ++ (cutN axis b hi ++ ([⟨1, ((i % 16 : Nat) : Int)⟩] : List Nd)) ++ tail, by rw [e1, List.append_assoc], e2, fun e => (by cases e), fun _ lev hlev => ?_⟩
          have hq : i % 16 < 16 := Nat.mod_lt _ (by decide)
          have key : ∀ lev2 : Int, 2 * lev2 + ((cutN axis b hi ++ ([⟨1, ((i % 16 : Nat) : Int)⟩] : List Nd)) ++ tail).length ≤ 129 → chkL kerf anyB ((cutN axis b hi ++ ([⟨1, ((i % 16 : Nat) : Int)⟩] : List Nd)) ++ tail) [⟨withP r axis a hi, lev2⟩] = 0 ∧ (leavesL kerf ((cutN axis b hi ++ ([⟨1, ((i % 16 : Nat) : Int)⟩] : List Nd)) ++ tail) [⟨withP r axis a hi, lev2⟩]).filter isBd = leavesOf r axis i ((a, b) :: sp) := by
            intro lev2 hlev2
            by_cases hbh : b = hi
            · obtain ⟨f1, f2⟩ := e3 (decide_eq_true hbh)
              subst f1 f2
              have hcn : cutN axis b hi = [] := by rw [cutN, if_neg (by omega)]
              rw [hcn] at hlev2 ⊢
              simp only [List.nil_append, List.append_nil, List.length_cons, List.length_nil] at hlev2 ⊢
              obtain ⟨q1, q2⟩ := board_step kerf [] ⟨withP r axis a hi, lev2⟩ [] (i % 16) hq (by simp only; omega)
              rw [q1, q2]
              refine ⟨rfl, ?_⟩
              rw [leavesOf, leavesOf, hbh]
              rw [List.filter_cons_of_pos (by simp only [isBd, decide_eq_true_eq]; omega)]
              rfl
            · have f := e4 (decide_eq_false hbh)
              have hcn : cutN axis b hi = [⟨axis, b⟩] := by rw [cutN, if_pos hbh]
              rw [hcn] at hlev2 ⊢
              simp only [List.cons_append, List.nil_append, List.length_cons] at hlev2 ⊢
              obtain ⟨p1, p2⟩ := rip_step r axis b a hi kerf lev2 (⟨1, ((i % 16 : Nat) : Int)⟩ :: tail) [] hk (by omega) (by omega) (by omega) (by omega) hkf
              obtain ⟨q1, q2⟩ := board_step kerf tail ⟨withP r axis a b, lev2 + 1⟩ [⟨withP r axis (min (b + kerf) hi) hi, lev2 + 1⟩] (i % 16) hq (by simp only; omega)
              obtain ⟨g1, g2⟩ := f (lev2 + 1) (by omega)
              rw [p1, q1, p2, q2]
              refine ⟨g1, ?_⟩
              rw [List.filter_cons_of_pos (by simp only [isBd, decide_eq_true_eq]; omega), g2, leavesOf]
          by_cases hgap : a = edge
          · have hgn : gapN axis kerf a edge = [] := by rw [gapN, if_neg (by omega)]
            rw [hgn] at hlev ⊢
            rw [List.nil_append] at hlev ⊢
            rw [← hgap]
            exact key lev hlev
          · have hgn : gapN axis kerf a edge = [⟨axis, a - kerf⟩, ⟨0, 0⟩] := by rw [gapN, if_pos hgap]
            rw [hgn, List.append_assoc] at hlev ⊢
            obtain ⟨T, hT⟩ : ∃ T, (cutN axis b hi ++ ([⟨1, ((i % 16 : Nat) : Int)⟩] : List Nd)) ++ tail = T := ⟨_, rfl⟩
            rw [hT] at hlev key ⊢
            simp only [List.cons_append, List.nil_append, List.length_cons] at hlev ⊢
            obtain ⟨p1, p2⟩ := rip_step r axis (a - kerf) edge hi kerf lev (⟨0, 0⟩ :: T) [] hk (by omega) (by omega) (by omega) (by omega) hkf
            obtain ⟨q1, q2⟩ := waste_step kerf T ⟨withP r axis edge (a - kerf), lev + 1⟩ [⟨withP r axis (min (a - kerf + kerf) hi) hi, lev + 1⟩] (by simp only; omega)
            have hm : min (a - kerf + kerf) hi = a := by omega
            rw [hm] at p1 p2 q1 q2
            obtain ⟨g1, g2⟩ := key (lev + 1) (by omega)
            rw [p1, q1, p2, q2]
            refine ⟨g1, ?_⟩
            rw [List.filter_cons_of_neg (by simp [isBd]), g2]
/-- The row of single boards. -/
theorem row_leaves (r : Rc) (axis kerf : Int) (sp : List (Int × Int)) (nodes : List Nd) (h : rowP r axis kerf sp (boardsOf 0 sp.length) = (nodes, 0)) :
    (leavesP r nodes kerf).2 = 0 ∧ (leavesP r nodes kerf).1.filter isBd = leavesOf r axis 0 sp ∧ nodes.length ≤ 127 := by
  unfold rowP at h
  split at h
  · exact absurd (congrArg Prod.snd h) (by simp)
  · rename_i hk
    split at h
    · exact absurd (congrArg Prod.snd h) (by simp)
    · rename_i hf
      split at h
      · exact absurd (congrArg Prod.snd h) (by simp)
      · rename_i hkf
        have hk : ripP axis = true := by simpa using hk
        have hfr : frameP r = true := by
          cases hq : frameP r with
          | true => rfl
          | false => exact absurd (Or.inl hq) hf
        obtain ⟨o1, o2, o3, o4, o5, o6⟩ := frame_ok hfr
        have hlh : -600 ≤ lowP r axis ∧ lowP r axis ≤ highP r axis ∧ highP r axis ≤ 600 := by
          unfold lowP highP
          split <;> omega
        obtain ⟨tail, e1, e2, _, e4⟩ := row_run r axis kerf (highP r axis) hk (by omega) (by omega) nodes sp 0 (lowP r axis) false [] (by omega) (by omega) h
        rw [List.nil_append] at e1
        subst e1
        obtain ⟨g1, g2⟩ := e4 rfl 1 (by omega)
        rw [withP_self] at g1 g2
        have hc : checkPt r nodes kerf anyB = 0 := by
          rw [checkPt, hfr, if_neg (by decide), if_neg hkf, if_neg (by omega), g1]
        refine ⟨?_, ?_, e2⟩
        · rw [leavesP, if_neg (by rw [hc]; decide)]
        · rw [leavesP, if_neg (by rw [hc]; decide)]
          exact g2
end Go.Proofs.YtbmcfodhjibooaaDoor
