/-
  Plain: a pattern whose axes are exchanged has the exchanged leaves and cuts.
-/
import Derived.Test.YtbmcfodhjibooaaDoorPaP
namespace Saw
def swapR (r : Rc) : Rc := ⟨r.ya, r.yb, r.xa, r.xb⟩
def swapN (n : Nd) : Nd := ⟨if n.kind = 2 then 3 else if n.kind = 3 then 2 else n.kind, n.pos⟩
def swapP (x : Plc) : Plc := ⟨swapR x.rect, x.level⟩
def swapL (x : Lf) : Lf := ⟨swapR x.rect, x.prod⟩
theorem swap_rip (n : Nd) : ripP (swapN n).kind = ripP n.kind := by
  unfold swapN ripP
  by_cases h2 : n.kind = 2
  · simp [h2]
  · by_cases h3 : n.kind = 3
    · simp [h3]
    · simp [h2, h3]
theorem rip_cases {k : Int} (h : ripP k = true) : k = 2 ∨ k = 3 := by
  unfold ripP at h
  rw [Bool.or_eq_true, beq_iff_eq, beq_iff_eq] at h
  exact h
theorem swap_parts {r : Rc} {n : Nd} {kerf : Int} (h : ripP n.kind = true) : part1 (swapR r) (swapN n) = swapR (part1 r n) ∧ partC (swapR r) (swapN n) kerf = swapR (partC r n kerf) ∧ part2 (swapR r) (swapN n) kerf = swapR (part2 r n kerf) ∧ lowP (swapR r) (swapN n).kind = lowP r n.kind ∧ highP (swapR r) (swapN n).kind = highP r n.kind := by
  obtain ⟨k, p⟩ := n
  rcases rip_cases h with h2 | h2
  all_goals
    simp only at h2
    subst h2
    simp [part1, part2, partC, endP, lowP, highP, withP, swapN, swapR]
theorem swap_push {n : Nd} {x : Plc} {st : List Plc} {kerf : Int} : pushP kerf (swapN n) (swapP x) (st.map swapP) = (pushP kerf n x st).map swapP := by
  unfold pushP
  rw [swap_rip]
  by_cases h : ripP n.kind = true
  · obtain ⟨h1, _, h2, _⟩ := swap_parts (r := x.rect) (kerf := kerf) h
    rw [if_pos h, if_pos h]
    simp only [List.map_cons, swapP, h1, h2]
  · rw [if_neg h, if_neg h]
theorem swap_kind (n : Nd) : ((swapN n).kind < 0 ↔ n.kind < 0) ∧ (3 < (swapN n).kind ↔ 3 < n.kind) ∧ ((swapN n).kind = 0 ↔ n.kind = 0) ∧ ((swapN n).kind = 1 ↔ n.kind = 1) ∧ (swapN n).pos = n.pos := by
  unfold swapN
  by_cases h2 : n.kind = 2
  · simp [h2]
  · by_cases h3 : n.kind = 3
    · simp [h3]
    · simp [h2, h3]
theorem swap_err (n : Nd) (x : Plc) : fullErr anyB (swapN n) (swapP x) = fullErr anyB n x := by
  obtain ⟨k1, k2, k3, k4, k5⟩ := swap_kind n
  have he : nodeErr (swapN n) (swapP x) = nodeErr n x := by
    unfold nodeErr
    rw [swap_rip]
    simp only [k1, k2, k3, k5]
    by_cases h : ripP n.kind = true
    · obtain ⟨_, _, _, h3, h4⟩ := swap_parts (r := x.rect) (kerf := 0) h
      rw [show (swapP x).rect = swapR x.rect from rfl, h3, h4]
      rfl
    · simp [h]
      rfl
  unfold fullErr
  rw [he]
  simp only [k4, k5]
  rfl
theorem swap_leaf (n : Nd) (x : Plc) : leafP (swapN n) (swapP x) = (leafP n x).map swapL := by
  obtain ⟨k1, k2, k3, k4, k5⟩ := swap_kind n
  unfold leafP
  simp only [k3, k4, k5]
  by_cases h0 : n.kind = 0
  · simp [h0, swapP, swapL]
  · by_cases h1 : n.kind = 1
    · simp [h1, swapP, swapL]
    · simp [h0, h1]
theorem swap_cut (n : Nd) (x : Plc) (kerf : Int) : cutP kerf (swapN n) (swapP x) = (cutP kerf n x).map swapR := by
  unfold cutP
  rw [swap_rip]
  by_cases h : ripP n.kind = true
  · rw [if_pos h, if_pos h, show (swapP x).rect = swapR x.rect from rfl, (swap_parts h).2.1]
    rfl
  · rw [if_neg h, if_neg h]
    rfl
theorem swap_run (kerf : Int) : ∀ (ns : List Nd) (st : List Plc), chkL kerf anyB (ns.map swapN) (st.map swapP) = chkL kerf anyB ns st ∧ leavesL kerf (ns.map swapN) (st.map swapP) = (leavesL kerf ns st).map swapL ∧ cutsL kerf (ns.map swapN) (st.map swapP) = (cutsL kerf ns st).map swapR
  | [], [] => ⟨rfl, rfl, rfl⟩
  | [], _ :: _ => ⟨rfl, rfl, rfl⟩
  | _ :: _, [] => ⟨rfl, rfl, rfl⟩
  | n :: ns, x :: st => by
    obtain ⟨i1, i2, i3⟩ := swap_run kerf ns (pushP kerf n x st)
    refine ⟨?_, ?_, ?_⟩
    · rw [List.map_cons, List.map_cons, chkL, chkL, swap_err, swap_push, i1]
    · rw [List.map_cons, List.map_cons, leavesL, leavesL, swap_leaf, swap_push, i2, List.map_append]
    · rw [List.map_cons, List.map_cons, cutsL, cutsL, swap_cut, swap_push, i3, List.map_append]
theorem swap_frame (r : Rc) : frameP (swapR r) = frameP r := by
  unfold frameP swapR
  exact Bool.and_comm _ _
theorem swap_chk (r : Rc) (ns : List Nd) (kerf : Int) : checkPt (swapR r) (ns.map swapN) kerf anyB = checkPt r ns kerf anyB := by
  unfold checkPt
  rw [swap_frame, List.length_map, show [(⟨swapR r, 1⟩ : Plc)] = [(⟨r, 1⟩ : Plc)].map swapP from rfl, (swap_run kerf ns _).1]
theorem swap_leaves (r : Rc) (ns : List Nd) (kerf : Int) : leavesP (swapR r) (ns.map swapN) kerf = ((leavesP r ns kerf).1.map swapL, (leavesP r ns kerf).2) := by
  unfold leavesP
  rw [swap_chk]
  by_cases h : checkPt r ns kerf anyB ≠ 0
  · rw [if_pos h, if_pos h]; rfl
  · rw [if_neg h, if_neg h, show [(⟨swapR r, 1⟩ : Plc)] = [(⟨r, 1⟩ : Plc)].map swapP from rfl, (swap_run kerf ns _).2.1]
theorem swap_cuts (r : Rc) (ns : List Nd) (kerf : Int) : cutsP (swapR r) (ns.map swapN) kerf = ((cutsP r ns kerf).1.map swapR, (cutsP r ns kerf).2) := by
  unfold cutsP
  rw [swap_chk]
  by_cases h : checkPt r ns kerf anyB ≠ 0
  · rw [if_pos h, if_pos h]; rfl
  · rw [if_neg h, if_neg h, show [(⟨swapR r, 1⟩ : Plc)] = [(⟨r, 1⟩ : Plc)].map swapP from rfl, (swap_run kerf ns _).2.2]
theorem swap_depthL : ∀ (ns : List Nd) (st : List Int) (m : Int), depthL (ns.map swapN) st m = depthL ns st m
  | [], [], _ => rfl
  | [], _ :: _, _ => rfl
  | _ :: _, [], _ => rfl
  | n :: ns, x :: st, m => by
    obtain ⟨k1, k2, _⟩ := swap_kind n
    rw [List.map_cons, depthL, depthL, swap_rip]
    simp only [k1, k2]
    rw [swap_depthL]
theorem swap_depth (ns : List Nd) : depthP (ns.map swapN) = depthP ns := by
  unfold depthP
  rw [List.length_map, swap_depthL]
end Saw
