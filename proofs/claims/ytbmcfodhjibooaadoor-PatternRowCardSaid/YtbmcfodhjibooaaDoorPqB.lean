/-
  Plain: the leaves and the cuts of a pattern tile its frame.
-/
import Derived.Test.YtbmcfodhjibooaaDoorPaG
namespace Saw
/-- A rectangle lies in another one. -/
def InR (r a : Rc) : Prop := r.xa ≤ a.xa ∧ a.xa ≤ a.xb ∧ a.xb ≤ r.xb ∧ r.ya ≤ a.ya ∧ a.ya ≤ a.yb ∧ a.yb ≤ r.yb
def ApartR (a b : Rc) : Prop := min a.xb b.xb ≤ max a.xa b.xa ∨ min a.yb b.yb ≤ max a.ya b.ya
def areaR (r : Rc) : Int := (r.xb - r.xa) * (r.yb - r.ya)
def sumA : List Rc → Int
  | [] => 0
  | r :: l => areaR r + sumA l
theorem sumA_app (a b : List Rc) : sumA (a ++ b) = sumA a + sumA b := by
  induction a with
  | nil => simp [sumA]
  | cons x l ih => rw [List.cons_append, sumA, sumA, ih]; omega
theorem sumA_perm {a b : List Rc} (h : a.Perm b) : sumA a = sumA b := by
  induction h with
  | nil => rfl
  | cons x _ ih => rw [sumA, sumA, ih]
  | swap x y l => rw [sumA, sumA, sumA, sumA]; omega
  | trans _ _ i1 i2 => exact i1.trans i2
theorem ApartR.symm {a b : Rc} (h : ApartR a b) : ApartR b a := by
  unfold ApartR at *
  omega
structure Tiles (r : Rc) (l : List Rc) : Prop where
  ins : ∀ a ∈ l, InR r a
  apart : l.Pairwise ApartR
  area : sumA l = areaR r
theorem Tiles.perm {r : Rc} {a b : List Rc} (h : Tiles r a) (p : a.Perm b) : Tiles r b :=
  ⟨fun x hx => h.ins x (p.mem_iff.2 hx), (p.pairwise_iff (fun h => h.symm)).1 h.apart, (sumA_perm p).symm.trans h.area⟩
theorem tiles_one {r : Rc} (h1 : r.xa ≤ r.xb) (h2 : r.ya ≤ r.yb) : Tiles r [r] :=
  ⟨fun a ha => by rw [List.mem_singleton] at ha; subst ha; exact ⟨by omega, h1, by omega, by omega, h2, by omega⟩, List.pairwise_singleton _ _, by simp [sumA]⟩
theorem tiles_rip {r p1 c p2 : Rc} {a b : List Rc} (hx : (p1 = ⟨r.xa, c.xa, r.ya, r.yb⟩ ∧ c = ⟨c.xa, c.xb, r.ya, r.yb⟩ ∧ p2 = ⟨c.xb, r.xb, r.ya, r.yb⟩ ∧ r.xa ≤ c.xa ∧ c.xa ≤ c.xb ∧ c.xb ≤ r.xb ∧ r.ya ≤ r.yb) ∨ (p1 = ⟨r.xa, r.xb, r.ya, c.ya⟩ ∧ c = ⟨r.xa, r.xb, c.ya, c.yb⟩ ∧ p2 = ⟨r.xa, r.xb, c.yb, r.yb⟩ ∧ r.ya ≤ c.ya ∧ c.ya ≤ c.yb ∧ c.yb ≤ r.yb ∧ r.xa ≤ r.xb))
    (h1 : Tiles p1 a) (h2 : Tiles p2 b) : Tiles r (c :: (a ++ b)) := by
  refine ⟨?_, ?_, ?_⟩
  · intro x hm
    rcases List.mem_cons.1 hm with rfl | hm
    · rcases hx with ⟨_, e, _⟩ | ⟨_, e, _⟩
      all_goals
        obtain ⟨q1, q2, q3, q4⟩ := x
        simp only [Rc.mk.injEq] at e
        unfold InR
        simp only at *
        omega
    · rcases List.mem_append.1 hm with hm | hm
      · have := h1.ins x hm
        unfold InR at *
        rcases hx with ⟨rfl, _, _, _⟩ | ⟨rfl, _, _, _⟩ <;> simp only at * <;> omega
      · have := h2.ins x hm
        unfold InR at *
        rcases hx with ⟨_, _, rfl, _⟩ | ⟨_, _, rfl, _⟩ <;> simp only at * <;> omega
  · rw [List.pairwise_cons]
    refine ⟨fun x hm => ?_, List.pairwise_append.2 ⟨h1.apart, h2.apart, fun x hx1 y hy => ?_⟩⟩
    · rcases List.mem_append.1 hm with hm | hm
      · have := h1.ins x hm
        unfold InR at this
        unfold ApartR
        rcases hx with ⟨rfl, _, _, _⟩ | ⟨rfl, _, _, _⟩ <;> simp only at * <;> omega
      · have := h2.ins x hm
        unfold InR at this
        unfold ApartR
        rcases hx with ⟨_, _, rfl, _⟩ | ⟨_, _, rfl, _⟩ <;> simp only at * <;> omega
    · have i1 := h1.ins x hx1
      have i2 := h2.ins y hy
      unfold InR at i1 i2
      unfold ApartR
      rcases hx with ⟨rfl, _, rfl, _⟩ | ⟨rfl, _, rfl, _⟩ <;> simp only at * <;> omega
  · rw [sumA, sumA_app, h1.area, h2.area]
    unfold areaR
    rcases hx with ⟨e1, e2, e3, _⟩ | ⟨e1, e2, e3, _⟩
    · rw [e1, e3]
      have e5 : c.ya = r.ya := by rw [e2]
      have e6 : c.yb = r.yb := by rw [e2]
      simp only [e5, e6]
      rw [← Int.add_mul, ← Int.add_mul]
      congr 1
      omega
    · rw [e1, e3]
      have e5 : c.xa = r.xa := by rw [e2]
      have e6 : c.xb = r.xb := by rw [e2]
      simp only [e5, e6]
      rw [← Int.mul_add, ← Int.mul_add]
      congr 1
      omega
theorem perm_parts (c : Rc) (c1 c2 l1 l2 : List Rc) : (c :: ((c1 ++ l1) ++ (c2 ++ l2))).Perm ((c :: (c1 ++ c2)) ++ (l1 ++ l2)) := by
  rw [List.cons_append]
  refine List.Perm.cons c ?_
  rw [List.append_assoc, List.append_assoc]
  refine List.Perm.append_left c1 ?_
  rw [← List.append_assoc, ← List.append_assoc]
  exact List.Perm.append_right l2 List.perm_append_comm
end Saw
namespace Go.Proofs.YtbmcfodhjibooaaDoor
open Saw
theorem walk_tiles (kerf : Int) (hk : 0 ≤ kerf ∧ kerf ≤ 20) : ∀ (f : Nat) (ns : List Nd) (x : Plc) (ns1 : List Nd) (l : List Lf) (c : List Rc), RcOk x.rect → walkR kerf anyB f ns x = .inr (ns1, l, c) →
    Tiles x.rect (c ++ l.map (·.rect)) ∧ c.length + l.length + ns1.length = ns.length := by
  intro f
  induction f with
  | zero => intro ns x ns1 l c _ h; rw [walkR] at h; cases h
  | succ f ih =>
    intro ns x ns1 l c hr h
    cases ns with
    | nil => rw [walkR] at h; cases h
    | cons n ns =>
      rw [walkR] at h
      by_cases h0 : fullErr anyB n x ≠ 0
      · rw [if_pos h0] at h; cases h
      · rw [if_neg h0] at h
        have hn : nodeErr n x = 0 := fullErr_node (Decidable.of_not_not h0)
        by_cases hp : ripP n.kind = true
        · rw [if_pos hp] at h
          obtain ⟨r1, rC, r2, hlo, hhi, he⟩ := part_ok hk hr hn hp
          cases h1 : walkR kerf anyB f ns ⟨part1 x.rect n, x.level + 1⟩ with
          | inl e => rw [h1] at h; cases h
          | inr q =>
            obtain ⟨m1, l1, c1⟩ := q
            rw [h1] at h
            simp only at h
            cases h2 : walkR kerf anyB f m1 ⟨part2 x.rect n kerf, x.level + 1⟩ with
            | inl e => rw [h2] at h; cases h
            | inr q =>
              obtain ⟨m2, l2, c2⟩ := q
              rw [h2] at h
              injection h with h
              injection h with e1 h
              injection h with e2 e3
              subst e1 e2 e3
              obtain ⟨t1, k1⟩ := ih _ _ _ _ _ r1 h1
              obtain ⟨t2, k2⟩ := ih _ _ _ _ _ r2 h2
              refine ⟨?_, by simp only [List.length_cons, List.length_append]; omega⟩
              rw [List.map_append]
              refine Tiles.perm (tiles_rip ?_ t1 t2) (perm_parts _ _ _ _ _)
              have hk2 : n.kind = 2 ∨ n.kind = 3 := by
                unfold ripP at hp
                rw [Bool.or_eq_true, beq_iff_eq, beq_iff_eq] at hp
                exact hp
              obtain ⟨o1, o2, o3, o4, o5, o6⟩ := hr
              rcases hk2 with hk2 | hk2
              · left
                rw [part1, partC, part2, he]
                rw [lowP, hk2, if_pos rfl] at hlo
                rw [highP, hk2, if_pos rfl] at hhi
                simp only [lowP, highP, withP, hk2, if_pos]
                refine ⟨trivial, trivial, trivial, ?_⟩
                omega
              · right
                rw [part1, partC, part2, he]
                rw [lowP, hk2, if_neg (by decide)] at hlo
                rw [highP, hk2, if_neg (by decide)] at hhi
                simp only [lowP, highP, withP, hk2, show ¬ (3 : Int) = 2 by decide, if_false]
                refine ⟨trivial, trivial, trivial, ?_⟩
                omega
        · rw [if_neg hp] at h
          injection h with h
          injection h with e1 h
          injection h with e2 e3
          subst e1 e2 e3
          have hl : ∃ p, leafP n x = [⟨x.rect, p⟩] := by
            unfold nodeErr at hn
            split at hn
            · cases hn
            · rename_i h3
              unfold leafP
              by_cases h4 : n.kind = 0
              · exact ⟨_, by rw [if_pos h4]⟩
              · by_cases h5 : n.kind = 1
                · exact ⟨_, by rw [if_neg h4, if_pos h5]⟩
                · exfalso
                  apply hp
                  unfold ripP
                  rw [Bool.or_eq_true, beq_iff_eq, beq_iff_eq]
                  omega
          obtain ⟨p, hl⟩ := hl
          rw [hl]
          exact ⟨tiles_one hr.2.1 hr.2.2.2.2.1, by simp; omega⟩
/-- What Leaves and Cuts of a pattern give. -/
theorem pat_tiles (r : Rc) (ns : List Nd) (kerf : Int) : (leavesP r ns kerf).2 = (cutsP r ns kerf).2 ∧ ((leavesP r ns kerf).2 ≠ 0 → (leavesP r ns kerf).1 = [] ∧ (cutsP r ns kerf).1 = []) ∧
    ((leavesP r ns kerf).2 = 0 → RcOk r ∧ Tiles r ((cutsP r ns kerf).1 ++ (leavesP r ns kerf).1.map (·.rect)) ∧ ((cutsP r ns kerf).1 ++ (leavesP r ns kerf).1.map (·.rect)).length = ns.length) := by
  unfold leavesP cutsP
  by_cases h : checkPt r ns kerf anyB ≠ 0
  · rw [if_pos h, if_pos h]
    exact ⟨rfl, fun _ => ⟨rfl, rfl⟩, fun e => absurd e h⟩
  · rw [if_neg h, if_neg h]
    refine ⟨rfl, fun e => absurd rfl e, fun _ => ?_⟩
    have h0 := Decidable.of_not_not h
    unfold checkPt at h0
    split at h0
    · cases h0
    · rename_i hf
      split at h0
      · cases h0
      · rename_i hk
        split at h0
        · cases h0
        · have hr := frame_ok (by simpa using hf : frameP r = true)
          obtain ⟨q1, q2⟩ := walk_chk kerf anyB (ns.length + 1) ns ⟨r, 1⟩ (by omega)
          cases hw : walkR kerf anyB (ns.length + 1) ns ⟨r, 1⟩ with
          | inl e =>
            have := q1 e hw
            rw [this.2 []] at h0
            exact absurd h0 this.1
          | inr q =>
            obtain ⟨m, l, c⟩ := q
            obtain ⟨_, hq⟩ := q2 m l c hw
            obtain ⟨s1, s2, s3⟩ := hq []
            rw [s1] at h0
            have hm : m = [] := by
              cases m with
              | nil => rfl
              | cons a b => rw [chkL] at h0; cases h0
            subst hm
            obtain ⟨t, k⟩ := walk_tiles kerf (by omega) _ _ _ _ _ _ hr hw
            rw [s2, s3, leavesL, cutsL, List.append_nil, List.append_nil]
            · refine ⟨hr, t, ?_⟩
              rw [List.length_append, List.length_map]
              exact k
            all_goals (intros; contradiction)
end Go.Proofs.YtbmcfodhjibooaaDoor
