/-
  Plain: cutting patterns: nodes in preorder, the stack machine that goes through them, what is checked, leaves and cuts.
  Plain: cutting patterns as trees: their nodes in preorder, their words, their text, the lexemes of it.
  Plain: the reader of patterns: a text of a pattern is read back as the pattern; what is read has the lexemes of its text.
-/
import Derived.Test.YtbmcfodhjibooaaDoorPrP
namespace Saw
/-- A node. -/
structure Nd where
  kind : Int
  pos : Int
deriving DecidableEq
/-- A rectangle. -/
structure Rc where
  xa : Int
  xb : Int
  ya : Int
  yb : Int
deriving DecidableEq
/-- Where a node lies, and its level. -/
structure Plc where
  rect : Rc
  level : Int
structure Lf where
  rect : Rc
  prod : Int
deriving DecidableEq
def frameP (r : Rc) : Bool := decide (-600 ≤ r.xa) && decide (r.xb ≤ 600) && decide (r.xa < r.xb) && (decide (-600 ≤ r.ya) && decide (r.yb ≤ 600) && decide (r.ya < r.yb))
def ripP (k : Int) : Bool := k == 2 || k == 3
def lowP (r : Rc) (k : Int) : Int := if k = 2 then r.xa else r.ya
def highP (r : Rc) (k : Int) : Int := if k = 2 then r.xb else r.yb
def withP (r : Rc) (k a b : Int) : Rc := if k = 2 then ⟨a, b, r.ya, r.yb⟩ else ⟨r.xa, r.xb, a, b⟩
/-- Where a cut ends, as the machine counts. -/
def endP (r : Rc) (n : Nd) (kerf : Int) : Int := min (Go.IntKind.i64.wrap (n.pos + kerf)) (highP r n.kind)
def part1 (r : Rc) (n : Nd) : Rc := withP r n.kind (lowP r n.kind) n.pos
def partC (r : Rc) (n : Nd) (kerf : Int) : Rc := withP r n.kind n.pos (endP r n kerf)
def part2 (r : Rc) (n : Nd) (kerf : Int) : Rc := withP r n.kind (endP r n kerf) (highP r n.kind)
/-- The stack (its top first) behind a node. -/
def pushP (kerf : Int) (n : Nd) (x : Plc) (st : List Plc) : List Plc :=
  if ripP n.kind then ⟨part1 x.rect n, x.level + 1⟩ :: ⟨part2 x.rect n kerf, x.level + 1⟩ :: st else st
/-- The places that are gone through: one a node, and one more where a node is missing. -/
def plsP (kerf : Int) : List Nd → List Plc → List Plc
  | _, [] => []
  | [], x :: _ => [x]
  | n :: ns, x :: st => x :: plsP kerf ns (pushP kerf n x st)
/-- The error of a node at a place, but for those of boards. -/
def nodeErr (n : Nd) (x : Plc) : Int :=
  if n.kind < 0 ∨ 3 < n.kind ∨ (n.kind = 0 ∧ n.pos ≠ 0) then 10
  else if 64 < x.level then 28
  else if ripP n.kind = true ∧ (n.pos ≤ lowP x.rect n.kind ∨ highP x.rect n.kind ≤ n.pos) then 20 else 0
def fullErr (board : Rc → Int → Int) (n : Nd) (x : Plc) : Int :=
  if nodeErr n x = 0 ∧ n.kind = 1 then board x.rect n.pos else nodeErr n x
def chkL (kerf : Int) (board : Rc → Int → Int) : List Nd → List Plc → Int
  | [], [] => 0
  | _ :: _, [] => 4
  | [], _ :: _ => 3
  | n :: ns, x :: st => if fullErr board n x ≠ 0 then fullErr board n x else chkL kerf board ns (pushP kerf n x st)
def checkPt (r : Rc) (ns : List Nd) (kerf : Int) (board : Rc → Int → Int) : Int :=
  if frameP r = false then 19 else if kerf < 0 ∨ 20 < kerf then 9 else if 127 < ns.length then 4 else chkL kerf board ns [⟨r, 1⟩]
def anyB (_ : Rc) (at_ : Int) : Int := if at_ < 0 ∨ 16 ≤ at_ then 8 else 0
/-- The leaf of a node at a place. -/
def leafP (n : Nd) (x : Plc) : List Lf := if n.kind = 0 then [⟨x.rect, -1⟩] else if n.kind = 1 then [⟨x.rect, n.pos⟩] else []
def cutP (kerf : Int) (n : Nd) (x : Plc) : List Rc := if ripP n.kind then [partC x.rect n kerf] else []
def leavesL (kerf : Int) : List Nd → List Plc → List Lf
  | n :: ns, x :: st => leafP n x ++ leavesL kerf ns (pushP kerf n x st)
  | _, _ => []
def cutsL (kerf : Int) : List Nd → List Plc → List Rc
  | n :: ns, x :: st => cutP kerf n x ++ cutsL kerf ns (pushP kerf n x st)
  | _, _ => []
def leavesP (r : Rc) (ns : List Nd) (kerf : Int) : List Lf × Int :=
  if checkPt r ns kerf anyB ≠ 0 then ([], checkPt r ns kerf anyB) else (leavesL kerf ns [⟨r, 1⟩], 0)
def cutsP (r : Rc) (ns : List Nd) (kerf : Int) : List Rc × Int :=
  if checkPt r ns kerf anyB ≠ 0 then ([], checkPt r ns kerf anyB) else (cutsL kerf ns [⟨r, 1⟩], 0)
/-- The levels of a pattern; the stack holds levels. -/
def depthL : List Nd → List Int → Int → Int
  | [], [], m => m
  | _ :: _, [], _ => 0
  | [], _ :: _, _ => 0
  | n :: ns, x :: st, m => if n.kind < 0 ∨ 3 < n.kind then 0 else depthL ns (if ripP n.kind then (x + 1) :: (x + 1) :: st else st) (max m x)
def depthP (ns : List Nd) : Int := if 127 < ns.length then 0 else depthL ns [1] 0

/-! ### The tree that begins at a node -/
def walkR (kerf : Int) (board : Rc → Int → Int) : Nat → List Nd → Plc → Int ⊕ (List Nd × List Lf × List Rc)
  | 0, _, _ => .inl 3
  | _ + 1, [], _ => .inl 3
  | f + 1, n :: ns, x =>
    if fullErr board n x ≠ 0 then .inl (fullErr board n x)
    else if ripP n.kind = true then
      match walkR kerf board f ns ⟨part1 x.rect n, x.level + 1⟩ with
      | .inl e => .inl e
      | .inr (ns1, l1, c1) =>
        match walkR kerf board f ns1 ⟨part2 x.rect n kerf, x.level + 1⟩ with
        | .inl e => .inl e
        | .inr (ns2, l2, c2) => .inr (ns2, l1 ++ l2, partC x.rect n kerf :: (c1 ++ c2))
    else .inr (ns, leafP n x, [])
theorem rip_leaf {n : Nd} {x : Plc} (h : ripP n.kind = true) : leafP n x = [] := by
  unfold ripP at h
  rw [Bool.or_eq_true, beq_iff_eq, beq_iff_eq] at h
  unfold leafP
  rw [if_neg (by omega), if_neg (by omega)]
/-- What goes through the stack is what goes through the tree. -/
theorem walk_chk (kerf : Int) (board : Rc → Int → Int) : ∀ (f : Nat) (ns : List Nd) (x : Plc), ns.length < f →
    (∀ e, walkR kerf board f ns x = .inl e → e ≠ 0 ∧ ∀ st, chkL kerf board ns (x :: st) = e) ∧
    (∀ ns1 l c, walkR kerf board f ns x = .inr (ns1, l, c) → ns1.length < ns.length ∧ ∀ st, chkL kerf board ns (x :: st) = chkL kerf board ns1 st ∧ leavesL kerf ns (x :: st) = l ++ leavesL kerf ns1 st ∧ cutsL kerf ns (x :: st) = c ++ cutsL kerf ns1 st) := by
  intro f
  induction f with
  | zero => intro ns x h; omega
  | succ f ih =>
    intro ns x hl
    cases ns with
    | nil =>
      refine ⟨fun e h => ?_, fun ns1 l c h => ?_⟩
      · rw [walkR] at h; injection h with h; subst h; exact ⟨by decide, fun st => rfl⟩
      · rw [walkR] at h; cases h
    | cons n ns =>
      rw [List.length_cons] at hl
      rw [walkR]
      by_cases h0 : fullErr board n x ≠ 0
      · rw [if_pos h0]
        refine ⟨fun e h => ?_, fun ns1 l c h => by cases h⟩
        injection h with h
        subst h
        exact ⟨h0, fun st => by rw [chkL, if_pos h0]⟩
      · rw [if_neg h0]
        by_cases hr : ripP n.kind = true
        · rw [if_pos hr]
          have hp : ∀ st, pushP kerf n x st = ⟨part1 x.rect n, x.level + 1⟩ :: ⟨part2 x.rect n kerf, x.level + 1⟩ :: st := fun st => by rw [pushP, if_pos hr]
          obtain ⟨i1, i2⟩ := ih ns ⟨part1 x.rect n, x.level + 1⟩ (by omega)
          cases hw : walkR kerf board f ns ⟨part1 x.rect n, x.level + 1⟩ with
          | inl e1 =>
            obtain ⟨j1, j2⟩ := i1 e1 hw
            refine ⟨fun e h => ?_, fun ns1 l c h => by cases h⟩
            injection h with h
            subst h
            exact ⟨j1, fun st => by rw [chkL, if_neg h0, hp, j2]⟩
          | inr r1 =>
            obtain ⟨ns1, l1, c1⟩ := r1
            obtain ⟨j0, j1⟩ := i2 ns1 l1 c1 hw
            obtain ⟨k1, k2⟩ := ih ns1 ⟨part2 x.rect n kerf, x.level + 1⟩ (by omega)
            simp only
            cases hw2 : walkR kerf board f ns1 ⟨part2 x.rect n kerf, x.level + 1⟩ with
            | inl e2 =>
              obtain ⟨m1, m2⟩ := k1 e2 hw2
              refine ⟨fun e h => ?_, fun ns1 l c h => by cases h⟩
              injection h with h
              subst h
              exact ⟨m1, fun st => by rw [chkL, if_neg h0, hp, (j1 _).1, m2]⟩
            | inr r2 =>
              obtain ⟨ns2, l2, c2⟩ := r2
              obtain ⟨m0, m1⟩ := k2 ns2 l2 c2 hw2
              refine ⟨fun e h => (by cases h), fun ns3 l c h => ?_⟩
              injection h with h
              injection h with h3 h4
              injection h4 with h4 h5
              subst h3 h4 h5
              refine ⟨by rw [List.length_cons]; omega, fun st => ⟨?_, ?_, ?_⟩⟩
              · rw [chkL, if_neg h0, hp, (j1 _).1, (m1 _).1]
              · rw [leavesL, hp, (j1 _).2.1, (m1 _).2.1, rip_leaf hr, List.nil_append, List.append_assoc]
              · rw [cutsL, hp, (j1 _).2.2, (m1 _).2.2, cutP, if_pos hr, List.cons_append, List.nil_append, List.cons_append, List.append_assoc]
        · rw [if_neg hr]
          have hp : ∀ st, pushP kerf n x st = st := fun st => by rw [pushP, if_neg hr]
          refine ⟨fun e h => (by cases h), fun ns1 l c h => ?_⟩
          injection h with h
          injection h with h3 h4
          injection h4 with h4 h5
          subst h3 h4 h5
          refine ⟨by rw [List.length_cons]; omega, fun st => ⟨?_, ?_, ?_⟩⟩
          · rw [chkL, if_neg h0, hp]
          · rw [leavesL, hp]
          · rw [cutsL, hp, cutP, if_neg hr]
/-- The reference's depth: the nodes behind a tree, and its levels. -/
def deepR : Nat → List Nd → Option (List Nd × Int)
  | 0, _ => none
  | _ + 1, [] => none
  | f + 1, n :: ns =>
    if n.kind < 0 ∨ 3 < n.kind then none
    else if n.kind < 2 then some (ns, 1)
    else match deepR f ns with
      | none => none
      | some (ns1, a) => match deepR f ns1 with
        | none => none
        | some (ns2, b) => some (ns2, 1 + max a b)
theorem deep_eq : ∀ (f : Nat) (ns : List Nd), ns.length < f →
    (deepR f ns = none → ∀ x st m, depthL ns (x :: st) m = 0) ∧
    (∀ ns1 d, deepR f ns = some (ns1, d) → ns1.length < ns.length ∧ 1 ≤ d ∧ ∀ x st m, depthL ns (x :: st) m = depthL ns1 st (max m (x + d - 1))) := by
  intro f
  induction f with
  | zero => intro ns h; omega
  | succ f ih =>
    intro ns hl
    cases ns with
    | nil => exact ⟨fun _ x st m => rfl, fun ns1 d h => by rw [deepR] at h; cases h⟩
    | cons n ns =>
      rw [List.length_cons] at hl
      rw [deepR]
      by_cases h0 : n.kind < 0 ∨ 3 < n.kind
      · rw [if_pos h0]
        exact ⟨fun _ x st m => by rw [depthL, if_pos h0], fun ns1 d h => by cases h⟩
      · rw [if_neg h0]
        by_cases h2 : n.kind < 2
        · rw [if_pos h2]
          have hr : ¬ ripP n.kind = true := by
            unfold ripP
            rw [Bool.or_eq_true, beq_iff_eq, beq_iff_eq]
            omega
          refine ⟨fun h => by (injection h), fun ns1 d h => ?_⟩
          injection h with h
          injection h with h3 h4
          subst h3 h4
          refine ⟨by rw [List.length_cons]; omega, by omega, fun x st m => ?_⟩
          rw [depthL, if_neg h0, if_neg hr, show x + 1 - 1 = x by omega]
        · rw [if_neg h2]
          have hr : ripP n.kind = true := by
            unfold ripP
            rw [Bool.or_eq_true, beq_iff_eq, beq_iff_eq]
            omega
          have hp : ∀ x st m, depthL (n :: ns) (x :: st) m = depthL ns ((x + 1) :: (x + 1) :: st) (max m x) := fun x st m => by rw [depthL, if_neg h0, if_pos hr]
          obtain ⟨i1, i2⟩ := ih ns (by omega)
          cases hw : deepR f ns with
          | none => exact ⟨fun _ x st m => by rw [hp, i1 hw], fun ns1 d h => by cases h⟩
          | some r1 =>
            obtain ⟨ns1, a⟩ := r1
            obtain ⟨j0, ja, j1⟩ := i2 ns1 a hw
            obtain ⟨k1, k2⟩ := ih ns1 (by omega)
            simp only
            cases hw2 : deepR f ns1 with
            | none => exact ⟨fun _ x st m => by rw [hp, j1, k1 hw2], fun ns1 d h => by cases h⟩
            | some r2 =>
              obtain ⟨ns2, b⟩ := r2
              obtain ⟨m0, mb, m1⟩ := k2 ns2 b hw2
              refine ⟨fun h => by (injection h), fun ns3 d h => ?_⟩
              injection h with h
              injection h with h3 h4
              subst h3 h4
              refine ⟨by rw [List.length_cons]; omega, by omega, fun x st m => ?_⟩
              rw [hp, j1, m1]
              congr 1
              omega
end Saw

namespace Saw
/-- A tree of nodes. -/
inductive Tr where
  | leaf (kind pos : Int)
  | rip (kind pos : Int) (a b : Tr)
def Tr.nodes : Tr → List Nd
  | .leaf k p => [⟨k, p⟩]
  | .rip k p a b => ⟨k, p⟩ :: (a.nodes ++ b.nodes)
def Tr.depth : Tr → Int
  | .leaf _ _ => 1
  | .rip _ _ a b => 1 + max a.depth b.depth
def Tr.ok : Tr → Bool
  | .leaf k _ => decide (k = 0) || decide (k = 1)
  | .rip k _ a b => (decide (k = 2) || decide (k = 3)) && (a.ok && b.ok)
theorem Tr.nodes_pos : ∀ t : Tr, 1 ≤ t.nodes.length
  | .leaf _ _ => by simp [Tr.nodes]
  | .rip _ _ a b => by simp [Tr.nodes]
theorem Tr.depth_pos : ∀ t : Tr, 1 ≤ t.depth
  | .leaf _ _ => by simp [Tr.depth]
  | .rip _ _ a b => by
    have := Tr.depth_pos a
    rw [Tr.depth]; omega
theorem ripP_iff {k : Int} : ripP k = true ↔ k = 2 ∨ k = 3 := by
  unfold ripP
  rw [Bool.or_eq_true, beq_iff_eq, beq_iff_eq]
/-- What is a tree for the reference is one. -/
theorem deep_tree : ∀ (f : Nat) (ns ns1 : List Nd) (d : Int), deepR f ns = some (ns1, d) → ∃ t : Tr, t.ok = true ∧ ns = t.nodes ++ ns1 ∧ d = t.depth
  | 0, _, _, _, h => by rw [deepR] at h; cases h
  | f + 1, [], _, _, h => by rw [deepR] at h; cases h
  | f + 1, n :: ns, ns1, d, h => by
    rw [deepR] at h
    by_cases h0 : n.kind < 0 ∨ 3 < n.kind
    · rw [if_pos h0] at h; cases h
    · rw [if_neg h0] at h
      by_cases h2 : n.kind < 2
      · rw [if_pos h2] at h
        injection h with h
        injection h with h3 h4
        subst h3 h4
        refine ⟨.leaf n.kind n.pos, ?_, rfl, rfl⟩
        rw [Tr.ok, Bool.or_eq_true, decide_eq_true_eq, decide_eq_true_eq]
        omega
      · rw [if_neg h2] at h
        cases hw : deepR f ns with
        | none => rw [hw] at h; cases h
        | some r1 =>
          obtain ⟨m1, a⟩ := r1
          rw [hw] at h
          simp only at h
          cases hw2 : deepR f m1 with
          | none => rw [hw2] at h; cases h
          | some r2 =>
            obtain ⟨m2, b⟩ := r2
            rw [hw2] at h
            injection h with h
            injection h with h3 h4
            subst h3 h4
            obtain ⟨t1, o1, e1, d1⟩ := deep_tree f _ _ _ hw
            obtain ⟨t2, o2, e2, d2⟩ := deep_tree f _ _ _ hw2
            refine ⟨.rip n.kind n.pos t1 t2, ?_, ?_, ?_⟩
            · rw [Tr.ok, o1, o2, Bool.and_true, Bool.and_true, Bool.or_eq_true, decide_eq_true_eq, decide_eq_true_eq]
              omega
            · rw [Tr.nodes, e1, e2]
              simp
            · rw [Tr.depth, d1, d2]
theorem tree_deep : ∀ (t : Tr) (f : Nat) (ns : List Nd), t.ok = true → (t.nodes ++ ns).length < f → deepR f (t.nodes ++ ns) = some (ns, t.depth)
  | _, 0, _, _, h => by omega
  | .leaf k p, f + 1, ns, ho, h => by
    rw [Tr.ok, Bool.or_eq_true, decide_eq_true_eq, decide_eq_true_eq] at ho
    rw [Tr.nodes, List.cons_append, List.nil_append, deepR, if_neg (by simp only; omega), if_pos (by simp only; omega)]
    rfl
  | .rip k p a b, f + 1, ns, ho, h => by
    rw [Tr.ok, Bool.and_eq_true, Bool.and_eq_true, Bool.or_eq_true, decide_eq_true_eq, decide_eq_true_eq] at ho
    obtain ⟨hk, ha, hb⟩ := ho
    rw [Tr.nodes, List.cons_append, List.append_assoc] at h ⊢
    rw [List.length_cons] at h
    have i1 := tree_deep a f (b.nodes ++ ns) ha (by omega)
    have i2 := tree_deep b f ns hb (by rw [List.length_append] at h; omega)
    rw [deepR, if_neg (by simp only; omega), if_neg (by simp only; omega), i1]
    simp only
    rw [i2]
    rfl
/-- A pattern has levels just where its nodes are a tree. -/
theorem depth_tree {ns : List Nd} (h : depthP ns ≠ 0) : ∃ t : Tr, t.ok = true ∧ ns = t.nodes ∧ depthP ns = t.depth ∧ ns.length ≤ 127 := by
  unfold depthP at h ⊢
  by_cases hl : 127 < ns.length
  · rw [if_pos hl] at h; exact absurd rfl h
  · rw [if_neg hl] at h ⊢
    obtain ⟨i1, i2⟩ := deep_eq (ns.length + 1) ns (by omega)
    cases hd : deepR (ns.length + 1) ns with
    | none => exact absurd (i1 hd 1 [] 0) h
    | some r =>
      obtain ⟨ns1, d⟩ := r
      obtain ⟨j1, j2, j3⟩ := i2 ns1 d hd
      rw [j3] at h ⊢
      obtain ⟨t, ho, e, hdt⟩ := deep_tree _ _ _ _ hd
      cases ns1 with
      | nil =>
        refine ⟨t, ho, by rw [e, List.append_nil], ?_, by omega⟩
        rw [depthL, ← hdt]
        omega
      | cons x r => rw [depthL] at h; exact absurd rfl h
theorem tree_depth {t : Tr} (ho : t.ok = true) (hl : t.nodes.length ≤ 127) : depthP t.nodes = t.depth := by
  unfold depthP
  rw [if_neg (by omega)]
  have hd := tree_deep t (t.nodes.length + 1) [] ho (by rw [List.append_nil]; omega)
  rw [List.append_nil] at hd
  have hp := Tr.depth_pos t
  rw [((deep_eq (t.nodes.length + 1) t.nodes (by omega)).2 _ _ hd).2.2, depthL]
  omega
/-- The reference's depth of a pattern. -/
def depthRef (ns : List Nd) : Int :=
  if 127 < ns.length then 0 else match deepR (ns.length + 1) ns with
    | some ([], d) => d
    | _ => 0
theorem depth_ref (ns : List Nd) : depthRef ns = depthP ns := by
  unfold depthRef depthP
  by_cases hl : 127 < ns.length
  · rw [if_pos hl, if_pos hl]
  · rw [if_neg hl, if_neg hl]
    obtain ⟨i1, i2⟩ := deep_eq (ns.length + 1) ns (by omega)
    cases hd : deepR (ns.length + 1) ns with
    | none => rw [i1 hd]
    | some r =>
      obtain ⟨ns1, d⟩ := r
      obtain ⟨j1, j2, j3⟩ := i2 ns1 d hd
      rw [j3]
      cases ns1 with
      | nil => simp only; rw [depthL]; omega
      | cons x r => rfl

/-! ### The text -/
def loP (k : Int) : Int := if k = 0 ∨ k = 1 then 0 else -600
def hiP (k : Int) : Int := if k = 0 then 0 else if k = 1 then 15 else 600
def inLim (n : Nd) : Bool := decide (loP n.kind ≤ n.pos) && decide (n.pos ≤ hiP n.kind)
def frameW : List UInt8 := [102, 114, 97, 109, 101]
def wasteW : List UInt8 := [119, 97, 115, 116, 101]
def boardW : List UInt8 := [98, 111, 97, 114, 100]
/-- The words of a node. -/
def ndWords (k p : Int) : List (List UInt8) :=
  if k = 0 then [wasteW] else if k = 1 then [boardW, Go.Lib.itoa p] else if k = 2 then [[120], Go.Lib.itoa p] else if k = 3 then [[121], Go.Lib.itoa p] else []
def Tr.words : Tr → List (List UInt8)
  | .leaf k p => [123] :: (ndWords k p ++ [[125]])
  | .rip k p a b => [123] :: (ndWords k p ++ (a.words ++ (b.words ++ [[125]])))
/-- The tree that begins at a node, and what is behind it. -/
def treeR : Nat → List Nd → Tr × List Nd
  | 0, ns => (.leaf 0 0, ns)
  | _ + 1, [] => (.leaf 0 0, [])
  | f + 1, n :: ns => if ripP n.kind = true then (.rip n.kind n.pos (treeR f ns).1 (treeR f (treeR f ns).2).1, (treeR f (treeR f ns).2).2) else (.leaf n.kind n.pos, ns)
theorem treeR_of : ∀ (t : Tr) (f : Nat) (ns : List Nd), t.ok = true → (t.nodes ++ ns).length < f → treeR f (t.nodes ++ ns) = (t, ns)
  | _, 0, _, _, h => by omega
  | .leaf k p, f + 1, ns, ho, h => by
    rw [Tr.ok, Bool.or_eq_true, decide_eq_true_eq, decide_eq_true_eq] at ho
    rw [Tr.nodes, List.cons_append, List.nil_append, treeR, if_neg (by rw [ripP_iff]; simp only; omega)]
  | .rip k p a b, f + 1, ns, ho, h => by
    rw [Tr.ok, Bool.and_eq_true, Bool.and_eq_true, Bool.or_eq_true, decide_eq_true_eq, decide_eq_true_eq] at ho
    obtain ⟨hk, ha, hb⟩ := ho
    rw [Tr.nodes, List.cons_append, List.append_assoc] at h ⊢
    rw [List.length_cons] at h
    have i1 := treeR_of a f (b.nodes ++ ns) ha (by omega)
    have i2 := treeR_of b f ns hb (by rw [List.length_append] at h; omega)
    rw [treeR, if_pos (by rw [ripP_iff]; exact hk), i1]
    simp only
    rw [i2]
def headWords (r : Rc) : List (List UInt8) := [frameW, Go.Lib.itoa r.xa, Go.Lib.itoa r.xb, Go.Lib.itoa r.ya, Go.Lib.itoa r.yb]
def treeOf (ns : List Nd) : Tr := (treeR (ns.length + 1) ns).1
theorem treeOf_nodes {t : Tr} (ho : t.ok = true) : treeOf t.nodes = t := by
  have h := treeR_of t (t.nodes.length + 1) [] ho (by rw [List.append_nil]; omega)
  rw [List.append_nil] at h
  rw [treeOf, h]
/-- A pattern that has a text. -/
def wellPt (r : Rc) (ns : List Nd) : Bool := frameP r && decide (depthP ns ≠ 0) && decide (depthP ns ≤ 64) && ns.all inLim
def textPt (r : Rc) (t : Tr) : List UInt8 := Go.Lib.join (headWords r ++ t.words) [32] ++ [10]
def formatPt (r : Rc) (ns : List Nd) : List UInt8 := if wellPt r ns = true then textPt r (treeOf ns) else []
theorem wellPt_iff {r : Rc} {ns : List Nd} : wellPt r ns = true ↔ frameP r = true ∧ depthP ns ≠ 0 ∧ depthP ns ≤ 64 ∧ ∀ n ∈ ns, inLim n = true := by
  rw [wellPt, Bool.and_eq_true, Bool.and_eq_true, Bool.and_eq_true, decide_eq_true_eq, decide_eq_true_eq, List.all_eq_true, and_assoc, and_assoc]
theorem frameP_iff {r : Rc} : frameP r = true ↔ -600 ≤ r.xa ∧ r.xb ≤ 600 ∧ r.xa < r.xb ∧ -600 ≤ r.ya ∧ r.yb ≤ 600 ∧ r.ya < r.yb := by
  simp only [frameP, Bool.and_eq_true, decide_eq_true_eq]
  omega

/-! ### Lengths -/
theorem itoa_len4 (n : Int) (h0 : -600 ≤ n) (h1 : n ≤ 600) : (Go.Lib.itoa n).length ≤ 4 := by
  unfold Go.Lib.itoa
  split
  · have := dec_le 3 (-n).toNat (by decide) (by simp; omega)
    have e : n.natAbs = (-n).toNat := by omega
    simp only [List.length_cons, e]; omega
  · have := dec_le 3 n.toNat (by decide) (by simp; omega)
    omega
theorem inLim_bd {n : Nd} (h : inLim n = true) : -600 ≤ n.pos ∧ n.pos ≤ 600 := by
  simp only [inLim, Bool.and_eq_true, decide_eq_true_eq] at h
  have h1 : -600 ≤ loP n.kind := by unfold loP; split <;> omega
  have h2 : hiP n.kind ≤ 600 := by unfold hiP; (repeat' split) <;> omega
  omega
theorem ndWords_len {k p : Int} (h0 : -600 ≤ p) (h1 : p ≤ 600) : (ndWords k p).length ≤ 2 ∧ ∀ x ∈ ndWords k p, x.length ≤ 5 := by
  have := itoa_len4 p h0 h1
  unfold ndWords
  (repeat' split) <;> refine ⟨by simp, fun x hx => ?_⟩ <;> simp at hx
  · subst hx; decide
  · rcases hx with rfl | rfl
    · decide
    · omega
  · rcases hx with rfl | rfl
    · decide
    · omega
  · rcases hx with rfl | rfl
    · decide
    · omega
theorem words_len : ∀ t : Tr, (∀ n ∈ t.nodes, inLim n = true) → t.words.length ≤ 4 * t.nodes.length ∧ ∀ x ∈ t.words, x.length ≤ 5
  | .leaf k p, h => by
    obtain ⟨b1, b2⟩ : -600 ≤ p ∧ p ≤ 600 := inLim_bd (h ⟨k, p⟩ (by simp [Tr.nodes]))
    obtain ⟨l1, l2⟩ := ndWords_len (k := k) b1 b2
    refine ⟨by simp only [Tr.words, Tr.nodes, List.length_cons, List.length_append, List.length_nil]; omega, fun x hx => ?_⟩
    simp only [Tr.words, List.mem_cons, List.mem_append, List.not_mem_nil, or_false] at hx
    rcases hx with rfl | hx | rfl
    · decide
    · exact l2 x hx
    · decide
  | .rip k p a b, h => by
    obtain ⟨b1, b2⟩ : -600 ≤ p ∧ p ≤ 600 := inLim_bd (h ⟨k, p⟩ (by simp [Tr.nodes]))
    obtain ⟨l1, l2⟩ := ndWords_len (k := k) b1 b2
    obtain ⟨a1, a2⟩ := words_len a (fun n hn => h n (by simp [Tr.nodes, hn]))
    obtain ⟨c1, c2⟩ := words_len b (fun n hn => h n (by simp [Tr.nodes, hn]))
    refine ⟨by simp only [Tr.words, Tr.nodes, List.length_cons, List.length_append, List.length_nil]; omega, fun x hx => ?_⟩
    simp only [Tr.words, List.mem_cons, List.mem_append, List.not_mem_nil, or_false] at hx
    rcases hx with rfl | hx | hx | hx | rfl
    · decide
    · exact l2 x hx
    · exact a2 x hx
    · exact c2 x hx
    · decide
theorem lens_le : ∀ (l : List (List UInt8)) (m : Nat), (∀ x ∈ l, x.length ≤ m) → Go.Lib.lens l ≤ m * l.length
  | [], m, _ => by simp [Go.Lib.lens]
  | x :: r, m, h => by
    have h1 := lens_le r m (fun y hy => h y (by simp [hy]))
    have h2 := h x (by simp)
    simp only [Go.Lib.lens, List.map_cons, List.sum_cons, List.length_cons, Nat.mul_succ] at h1 ⊢
    omega
theorem headWords_len {r : Rc} (h : frameP r = true) : ∀ x ∈ headWords r, x.length ≤ 5 := by
  rw [frameP_iff] at h
  have h1 := itoa_len4 r.xa (by omega) (by omega)
  have h2 := itoa_len4 r.xb (by omega) (by omega)
  have h3 := itoa_len4 r.ya (by omega) (by omega)
  have h4 := itoa_len4 r.yb (by omega) (by omega)
  intro x hx
  simp only [headWords, List.mem_cons, List.not_mem_nil, or_false] at hx
  rcases hx with rfl | rfl | rfl | rfl | rfl
  · decide
  all_goals omega
theorem textPt_len {r : Rc} {t : Tr} (h : frameP r = true) (hl : t.nodes.length ≤ 127) (hn : ∀ n ∈ t.nodes, inLim n = true) : (textPt r t).length ≤ 4000 := by
  obtain ⟨w1, w2⟩ := words_len t hn
  have hh := headWords_len h
  have hc : headWords r ++ t.words = frameW :: ((headWords r).drop 1 ++ t.words) := rfl
  have h3 := lens_le (headWords r ++ t.words) 5 (fun x hx => by
    rcases List.mem_append.1 hx with hx | hx
    · exact hh x hx
    · exact w2 x hx)
  have h4 : (headWords r ++ t.words).length = 5 + t.words.length := by rw [List.length_append]; rfl
  rw [h4] at h3
  rw [textPt, List.length_append]
  rw [hc] at h3 h4 ⊢
  rw [Go.Lib.join_length]
  rw [List.length_cons] at h4
  simp only [List.length_cons, List.length_nil]
  omega
theorem formatPt_len (r : Rc) (ns : List Nd) : (formatPt r ns).length ≤ 4000 := by
  unfold formatPt
  split
  · rename_i h
    obtain ⟨h1, h2, h3, h4⟩ := wellPt_iff.1 h
    obtain ⟨t, ho, e, hd, hl⟩ := depth_tree h2
    subst e
    rw [treeOf_nodes ho]
    exact textPt_len h1 hl h4
  · simp

/-! ### The lexemes of a text -/
def numT (n : Int) : List Lx := if n < 0 then [mkT [45], nuT (-n)] else [nuT n]
def ndToks (k p : Int) : List Lx :=
  if k = 0 then [nmT wasteW] else if k = 1 then nmT boardW :: numT p else if k = 2 then nmT [120] :: numT p else if k = 3 then nmT [121] :: numT p else []
def Tr.toks : Tr → List Lx
  | .leaf k p => mkT [123] :: (ndToks k p ++ [mkT [125]])
  | .rip k p a b => mkT [123] :: (ndToks k p ++ (a.toks ++ (b.toks ++ [mkT [125]])))
def headToks (r : Rc) : List Lx := nmT frameW :: (numT r.xa ++ (numT r.xb ++ (numT r.ya ++ numT r.yb)))
/-- A word, and the lexemes of it ahead of a blank. -/
def WordT (w : List UInt8) (ts : List Lx) : Prop := ∀ l rs, (l.headD 32).toNat = 32 ∨ (l.headD 32).toNat = 10 → Lexes l rs → Lexes (w ++ l) (ts ++ rs)
theorem stops_blank {l : List UInt8} (h : (l.headD 32).toNat = 32 ∨ (l.headD 32).toNat = 10) : stops l = true := by
  rw [stops]
  rcases h with h | h <;> rw [h] <;> decide
theorem wordT_word {w : List UInt8} (h : isWord w = true) : WordT w [nmT w] := fun _ _ hl hx => Lexes.word h (stops_blank hl) hx
theorem itoa_neg {n : Int} (h : n < 0) : Go.Lib.itoa n = 45 :: Go.Lib.itoa (-n) := by
  rw [Go.Lib.itoa, if_pos h, Go.Lib.itoa, if_neg (by omega), show n.natAbs = (-n).toNat by omega]
theorem wordT_num {n : Int} (h0 : -600 ≤ n) (h1 : n ≤ 600) : WordT (Go.Lib.itoa n) (numT n) := fun l rs hl hx => by
  have hd := stops_dig (stops_blank hl)
  unfold numT
  split
  · rename_i hn
    rw [itoa_neg hn]
    have h2 := Lexes.num (n := -n) (by omega) (by omega) hd hx
    exact Lexes.mark (m := [45]) (by decide) (fun _ => mark_alone 45 _ (by decide)) h2
  · exact Lexes.num (by omega) (by omega) hd hx
theorem wordT_mark {m : List UInt8} (h : m = [123] ∨ m = [125]) : WordT m [mkT m] := fun l rs hl hx => by
  rcases h with rfl | rfl
  · exact Lexes.mark (m := [123]) (by decide) (fun _ => mark_alone 123 _ (by decide)) hx
  · exact Lexes.mark (m := [125]) (by decide) (fun _ => mark_alone 125 _ (by decide)) hx
/-- Words and their lexemes. -/
inductive WordsT : List (List UInt8) → List Lx → Prop where
  | nil : WordsT [] []
  | cons {w ws ts us} : WordT w ts → WordsT ws us → WordsT (w :: ws) (ts ++ us)
theorem WordsT.app {a b : List (List UInt8)} {s t : List Lx} (h : WordsT a s) (k : WordsT b t) : WordsT (a ++ b) (s ++ t) := by
  induction h with
  | nil => exact k
  | cons h1 h2 ih => rw [List.append_assoc]; exact .cons h1 ih
theorem WordsT.one {w : List UInt8} {ts : List Lx} (h : WordT w ts) : WordsT [w] ts := by
  have := WordsT.cons h .nil
  rwa [List.append_nil] at this
theorem ndWordsT {k p : Int} (h : inLim ⟨k, p⟩ = true) : WordsT (ndWords k p) (ndToks k p) := by
  obtain ⟨h0, h1⟩ := inLim_bd h
  simp only at h0 h1
  unfold ndWords ndToks
  split
  · exact .one (wordT_word (by decide))
  · split
    · exact .cons (ts := [nmT boardW]) (wordT_word (by decide)) (.one (wordT_num h0 h1))
    · split
      · exact .cons (ts := [nmT [120]]) (wordT_word (by decide)) (.one (wordT_num h0 h1))
      · split
        · exact .cons (ts := [nmT [121]]) (wordT_word (by decide)) (.one (wordT_num h0 h1))
        · exact .nil
theorem treeWordsT : ∀ t : Tr, (∀ n ∈ t.nodes, inLim n = true) → WordsT t.words t.toks
  | .leaf k p, h => by
    rw [Tr.words, Tr.toks]
    exact .cons (ts := [mkT [123]]) (wordT_mark (.inl rfl)) ((ndWordsT (h ⟨k, p⟩ (by simp [Tr.nodes]))).app (.one (wordT_mark (.inr rfl))))
  | .rip k p a b, h => by
    rw [Tr.words, Tr.toks]
    exact .cons (ts := [mkT [123]]) (wordT_mark (.inl rfl)) ((ndWordsT (h ⟨k, p⟩ (by simp [Tr.nodes]))).app ((treeWordsT a (fun n hn => h n (by simp [Tr.nodes, hn]))).app ((treeWordsT b (fun n hn => h n (by simp [Tr.nodes, hn]))).app (.one (wordT_mark (.inr rfl))))))
theorem headWordsT {r : Rc} (h : frameP r = true) : WordsT (headWords r) (headToks r) := by
  rw [frameP_iff] at h
  rw [headWords, headToks]
  exact .cons (ts := [nmT frameW]) (wordT_word (by decide)) (.cons (wordT_num (by omega) (by omega)) (.cons (wordT_num (by omega) (by omega)) (.cons (wordT_num (by omega) (by omega)) (.one (wordT_num (by omega) (by omega))))))
theorem WordsT.tail {ws : List (List UInt8)} {ts : List Lx} (h : WordsT ws ts) : Lexes (Go.Lib.joinTail [32] ws ++ [10]) ts ∧ (((Go.Lib.joinTail [32] ws ++ [10]).headD 32).toNat = 32 ∨ ((Go.Lib.joinTail [32] ws ++ [10]).headD 32).toNat = 10) := by
  induction h with
  | nil => exact ⟨Lexes.blank (.inr rfl) .nil, .inr rfl⟩
  | @cons w ws ts us h1 h2 ih =>
    have e : Go.Lib.joinTail [32] (w :: ws) ++ [10] = 32 :: (w ++ (Go.Lib.joinTail [32] ws ++ [10])) := by simp [Go.Lib.joinTail]
    rw [e]
    exact ⟨Lexes.blank (.inl rfl) (h1 _ _ ih.2 ih.1), .inl rfl⟩
theorem WordsT.join {ws : List (List UInt8)} {ts : List Lx} (h : WordsT ws ts) (hne : ws ≠ []) : Lexes (Go.Lib.join ws [32] ++ [10]) ts := by
  cases h with
  | nil => exact absurd rfl hne
  | cons h2 h3 =>
    rw [Go.Lib.join_cons, List.append_assoc]
    exact h2 _ _ h3.tail.2 h3.tail.1
theorem textPt_lexes {r : Rc} {t : Tr} (h : frameP r = true) (hn : ∀ n ∈ t.nodes, inLim n = true) : Lexes (textPt r t) (headToks r ++ t.toks) :=
  ((headWordsT h).app (treeWordsT t hn)).join (by simp [headWords])
end Saw

namespace Saw
/-- The reader's state: the next lexeme, the first error and its offset. -/
structure Ps where
  k : Nat
  e : Int
  off : Int
def tryQ (xs : List Lx) (s : Ps) (kind : Int) (t : List UInt8) : Bool := decide (s.e = 0) && lxIs (lxAt xs s.k) kind t
def trySt (xs : List Lx) (s : Ps) (kind : Int) (t : List UInt8) : Ps := if tryQ xs s kind t = true then ⟨s.k + 1, s.e, s.off⟩ else s
def failQ (s : Ps) (e off : Int) : Ps := if s.e = 0 then ⟨s.k, e, off⟩ else s
def takeQ (xs : List Lx) (s : Ps) (kind : Int) (t : List UInt8) : Ps := if tryQ xs s kind t = true then ⟨s.k + 1, s.e, s.off⟩ else failQ s 5 (lxAt xs s.k).off
/-- A number's head: its sign, and whether a number is there. -/
def num1 (xs : List Lx) (s : Ps) : Ps := trySt xs s 3 [45]
def num2 (xs : List Lx) (s : Ps) : Ps :=
  if (lxAt xs (num1 xs s).k).kind ≠ 2 ∨ (tryQ xs s 3 [45] = true ∧ (lxAt xs (num1 xs s).k).num = 0) then failQ (num1 xs s) 5 (lxAt xs (num1 xs s).k).off else num1 xs s
def numV (xs : List Lx) (s : Ps) : Int := if tryQ xs s 3 [45] = true then -(lxAt xs (num1 xs s).k).num else (lxAt xs (num1 xs s).k).num
def numQ (xs : List Lx) (s : Ps) (lo hi : Int) : Int × Ps :=
  if (num2 xs s).e ≠ 0 then (0, num2 xs s)
  else (numV xs s, if numV xs s < lo ∨ hi < numV xs s then failQ ⟨(num2 xs s).k + 1, (num2 xs s).e, (num2 xs s).off⟩ 9 (lxAt xs s.k).off else ⟨(num2 xs s).k + 1, (num2 xs s).e, (num2 xs s).off⟩)
/-- The head of a node: the brace, and what forbids a node. -/
def nd1 (xs : List Lx) (s : Ps) : Ps := takeQ xs s 3 [123]
def nd2 (xs : List Lx) (n : Nat) (s : Ps) : Ps := if 127 ≤ n then failQ (nd1 xs s) 4 (lxAt xs s.k).off else nd1 xs s
def nd3 (xs : List Lx) (lev : Int) (n : Nat) (s : Ps) : Ps := if 64 < lev then failQ (nd2 xs n s) 28 (lxAt xs s.k).off else nd2 xs n s
/-- The kind of a node, by its word. -/
def kindQ (x : Lx) : Option Int :=
  if lxIs x 1 wasteW = true then some 0 else if lxIs x 1 boardW = true then some 1 else if lxIs x 1 [120] = true then some 2 else if lxIs x 1 [121] = true then some 3 else none
def posQ (xs : List Lx) (k : Int) (s : Ps) : Int × Ps := if k = 0 then (0, s) else numQ xs s (loP k) (hiP k)
def nodeQ (xs : List Lx) : Nat → Int → Ps → List Nd → Ps × List Nd
  | 0, lev, s, acc => (nd3 xs lev acc.length s, acc)
  | f + 1, lev, s, acc =>
    if (nd3 xs lev acc.length s).e ≠ 0 then (nd3 xs lev acc.length s, acc)
    else match kindQ (lxAt xs (nd3 xs lev acc.length s).k) with
      | none => (failQ (nd3 xs lev acc.length s) 5 (lxAt xs (nd3 xs lev acc.length s).k).off, acc)
      | some k =>
        if ripP k = true then
          (takeQ xs (nodeQ xs f (lev + 1) (nodeQ xs f (lev + 1) (posQ xs k ⟨(nd3 xs lev acc.length s).k + 1, 0, (nd3 xs lev acc.length s).off⟩).2 (acc ++ [⟨k, (posQ xs k ⟨(nd3 xs lev acc.length s).k + 1, 0, (nd3 xs lev acc.length s).off⟩).1⟩])).1
              (nodeQ xs f (lev + 1) (posQ xs k ⟨(nd3 xs lev acc.length s).k + 1, 0, (nd3 xs lev acc.length s).off⟩).2 (acc ++ [⟨k, (posQ xs k ⟨(nd3 xs lev acc.length s).k + 1, 0, (nd3 xs lev acc.length s).off⟩).1⟩])).2).1 3 [125],
            (nodeQ xs f (lev + 1) (nodeQ xs f (lev + 1) (posQ xs k ⟨(nd3 xs lev acc.length s).k + 1, 0, (nd3 xs lev acc.length s).off⟩).2 (acc ++ [⟨k, (posQ xs k ⟨(nd3 xs lev acc.length s).k + 1, 0, (nd3 xs lev acc.length s).off⟩).1⟩])).1
              (nodeQ xs f (lev + 1) (posQ xs k ⟨(nd3 xs lev acc.length s).k + 1, 0, (nd3 xs lev acc.length s).off⟩).2 (acc ++ [⟨k, (posQ xs k ⟨(nd3 xs lev acc.length s).k + 1, 0, (nd3 xs lev acc.length s).off⟩).1⟩])).2).2)
        else (takeQ xs (posQ xs k ⟨(nd3 xs lev acc.length s).k + 1, 0, (nd3 xs lev acc.length s).off⟩).2 3 [125], acc ++ [⟨k, (posQ xs k ⟨(nd3 xs lev acc.length s).k + 1, 0, (nd3 xs lev acc.length s).off⟩).1⟩])
/-- One step of a node, its parts named. -/
theorem nodeQ_rip {xs : List Lx} {f : Nat} {lev : Int} {s s3 s4 s5 s6 : Ps} {acc acc5 acc6 : List Nd} {k p : Int} (h3 : nd3 xs lev acc.length s = s3) (he : s3.e = 0) (hk : kindQ (lxAt xs s3.k) = some k) (hr : ripP k = true) (hp : posQ xs k ⟨s3.k + 1, 0, s3.off⟩ = (p, s4))
    (h5 : nodeQ xs f (lev + 1) s4 (acc ++ [⟨k, p⟩]) = (s5, acc5)) (h6 : nodeQ xs f (lev + 1) s5 acc5 = (s6, acc6)) : nodeQ xs (f + 1) lev s acc = (takeQ xs s6 3 [125], acc6) := by
  rw [nodeQ, h3, if_neg (by rw [he]; decide), hk]
  simp only [hp, h5, h6, hr, if_true]
theorem nodeQ_leaf {xs : List Lx} {f : Nat} {lev : Int} {s s3 s4 : Ps} {acc : List Nd} {k p : Int} (h3 : nd3 xs lev acc.length s = s3) (he : s3.e = 0) (hk : kindQ (lxAt xs s3.k) = some k) (hr : ripP k = false) (hp : posQ xs k ⟨s3.k + 1, 0, s3.off⟩ = (p, s4)) :
    nodeQ xs (f + 1) lev s acc = (takeQ xs s4 3 [125], acc ++ [⟨k, p⟩]) := by
  rw [nodeQ, h3, if_neg (by rw [he]; decide), hk]
  simp only [hp, hr, Bool.false_eq_true, if_false]
theorem nodeQ_none {xs : List Lx} {f : Nat} {lev : Int} {s s3 : Ps} {acc : List Nd} (h3 : nd3 xs lev acc.length s = s3) (he : s3.e = 0) (hk : kindQ (lxAt xs s3.k) = none) : nodeQ xs (f + 1) lev s acc = (failQ s3 5 (lxAt xs s3.k).off, acc) := by
  rw [nodeQ, h3, if_neg (by rw [he]; decide), hk]
theorem nodeQ_bad {xs : List Lx} {f : Nat} {lev : Int} {s s3 : Ps} {acc : List Nd} (h3 : nd3 xs lev acc.length s = s3) (he : s3.e ≠ 0) : nodeQ xs f lev s acc = (s3, acc) := by
  cases f with
  | zero => rw [nodeQ, h3]
  | succ f => rw [nodeQ, h3, if_pos he]
/-- The text's frame, nodes and end. -/
def pq1 (xs : List Lx) : Ps := takeQ xs ⟨0, 0, 0⟩ 1 frameW
def hdA (xs : List Lx) : Int × Ps := numQ xs (pq1 xs) (-600) 600
def hdB (xs : List Lx) : Int × Ps := numQ xs (hdA xs).2 (-600) 600
def hdC (xs : List Lx) : Int × Ps := numQ xs (hdB xs).2 (-600) 600
def hdD (xs : List Lx) : Int × Ps := numQ xs (hdC xs).2 (-600) 600
def pq2 (xs : List Lx) : Ps := if (hdB xs).1 ≤ (hdA xs).1 ∨ (hdD xs).1 ≤ (hdC xs).1 then failQ (hdD xs).2 19 (lxAt xs 0).off else (hdD xs).2
def bodyQ (xs : List Lx) : Ps × List Nd := nodeQ xs 65 1 (pq2 xs) []
def endQ (xs : List Lx) : Ps := if (lxAt xs (bodyQ xs).1.k).kind ≠ 0 then failQ (bodyQ xs).1 5 (lxAt xs (bodyQ xs).1.k).off else (bodyQ xs).1
def parsePt (s : List UInt8) : (Rc × List Nd) × Int × Int :=
  if (scanP s).2.1 ≠ 0 then ((⟨0, 0, 0, 0⟩, []), (scanP s).2.1, (scanP s).2.2)
  else if (endQ (scanP s).1).e ≠ 0 then ((⟨0, 0, 0, 0⟩, []), (endQ (scanP s).1).e, (endQ (scanP s).1).off)
  else ((⟨(hdA (scanP s).1).1, (hdB (scanP s).1).1, (hdC (scanP s).1).1, (hdD (scanP s).1).1⟩, (bodyQ (scanP s).1).2), 0, 0)

/-! ### An error stays -/
theorem failQ_bad {s : Ps} (h : s.e ≠ 0) (e off : Int) : failQ s e off = s := by rw [failQ, if_neg h]
theorem failQ_e {s : Ps} {e off : Int} (he : e ≠ 0) : (failQ s e off).e ≠ 0 := by
  unfold failQ
  split
  · exact he
  · assumption
theorem tryQ_bad {xs : List Lx} {s : Ps} {k : Int} {t : List UInt8} (h : s.e ≠ 0) : tryQ xs s k t = false := by rw [tryQ, decide_eq_false h]; rfl
theorem takeQ_bad {xs : List Lx} {s : Ps} {k : Int} {t : List UInt8} (h : s.e ≠ 0) : takeQ xs s k t = s := by rw [takeQ, tryQ_bad h, if_neg (by decide), failQ_bad h]
theorem trySt_bad {xs : List Lx} {s : Ps} {k : Int} {t : List UInt8} (h : s.e ≠ 0) : trySt xs s k t = s := by rw [trySt, tryQ_bad h, if_neg (by decide)]
theorem numQ_bad {xs : List Lx} {s : Ps} {lo hi : Int} (h : s.e ≠ 0) : numQ xs s lo hi = (0, s) := by
  have h1 : num1 xs s = s := trySt_bad h
  have h2 : num2 xs s = s := by
    rw [num2, h1]
    split
    · exact failQ_bad h _ _
    · rfl
  rw [numQ, h2, if_pos h]
theorem nd3_bad {xs : List Lx} {lev : Int} {n : Nat} {s : Ps} (h : s.e ≠ 0) : nd3 xs lev n s = s := by
  have h1 : nd1 xs s = s := takeQ_bad h
  have h2 : nd2 xs n s = s := by
    rw [nd2, h1]
    split
    · exact failQ_bad h _ _
    · rfl
  rw [nd3, h2]
  split
  · exact failQ_bad h _ _
  · rfl
theorem nodeQ_stay {xs : List Lx} {f : Nat} {lev : Int} {s : Ps} {acc : List Nd} (h : s.e ≠ 0) : nodeQ xs f lev s acc = (s, acc) := nodeQ_bad (nd3_bad h) h

/-! ### Where the reader stands -/
theorem lxIs_ne0 {x : Lx} {k : Int} {t : List UInt8} (hk : k ≠ 0) (h : lxIs x k t = true) : x.kind ≠ 0 := by rw [lxIs_kind h]; exact hk
theorem takeQ_in {xs : List Lx} (he : LxEnds xs) {s : Ps} {k : Int} {t : List UInt8} (hk : k ≠ 0) (hs : s.k < xs.length) : (takeQ xs s k t).k < xs.length := by
  unfold takeQ tryQ
  split
  · rename_i h
    rw [Bool.and_eq_true] at h
    exact lxEnds_next he hs (lxIs_ne0 hk h.2)
  · unfold failQ
    split <;> exact hs
theorem trySt_in {xs : List Lx} (he : LxEnds xs) {s : Ps} {k : Int} {t : List UInt8} (hk : k ≠ 0) (hs : s.k < xs.length) : (trySt xs s k t).k < xs.length := by
  unfold trySt tryQ
  split
  · rename_i h
    rw [Bool.and_eq_true] at h
    exact lxEnds_next he hs (lxIs_ne0 hk h.2)
  · exact hs
theorem failQ_k (s : Ps) (e off : Int) : (failQ s e off).k = s.k := by unfold failQ; split <;> rfl
theorem num2_k (xs : List Lx) (s : Ps) : (num2 xs s).k = (num1 xs s).k := by
  unfold num2
  split
  · exact failQ_k _ _ _
  · rfl
theorem num2_ok {xs : List Lx} {s : Ps} (h : (num2 xs s).e = 0) : (lxAt xs (num1 xs s).k).kind = 2 ∧ ¬ (tryQ xs s 3 [45] = true ∧ (lxAt xs (num1 xs s).k).num = 0) ∧ num2 xs s = num1 xs s := by
  unfold num2 at h ⊢
  split
  · rename_i hc
    rw [if_pos hc] at h
    exact absurd h (failQ_e (by decide))
  · rename_i hc
    exact ⟨Decidable.byContradiction fun h2 => hc (.inl h2), fun h2 => hc (.inr h2), rfl⟩
theorem numQ_in {xs : List Lx} (he : LxEnds xs) {s : Ps} {lo hi : Int} (hs : s.k < xs.length) : (numQ xs s lo hi).2.k < xs.length := by
  have h1 : (num1 xs s).k < xs.length := trySt_in he (by decide) hs
  unfold numQ
  split
  · rw [num2_k]; exact h1
  · rename_i h
    have h2 := num2_ok (Decidable.not_not.1 h)
    have h3 : (num2 xs s).k + 1 < xs.length := by
      rw [num2_k]
      exact lxEnds_next he h1 (by rw [h2.1]; decide)
    simp only
    split
    · rw [failQ_k]; exact h3
    · exact h3
theorem nd3_in {xs : List Lx} (he : LxEnds xs) {lev : Int} {n : Nat} {s : Ps} (hs : s.k < xs.length) : (nd3 xs lev n s).k < xs.length := by
  have h1 : (nd1 xs s).k < xs.length := takeQ_in he (by decide) hs
  have h2 : (nd2 xs n s).k < xs.length := by
    unfold nd2
    split
    · rw [failQ_k]; exact h1
    · exact h1
  unfold nd3
  split
  · rw [failQ_k]; exact h2
  · exact h2
theorem kindQ_some {x : Lx} {k : Int} (h : kindQ x = some k) : x.kind = 1 ∧ 0 ≤ k ∧ k ≤ 3 ∧ ndWords k 0 ≠ [] ∧ x.text = (ndWords k 0).headD [] := by
  unfold kindQ at h
  (repeat' split at h)
  · injection h with h; subst h; rename_i h1; refine ⟨lxIs_kind h1, by decide, by decide, by decide, ?_⟩; rw [lxIs, Bool.and_eq_true, beq_iff_eq, beq_iff_eq] at h1; exact h1.2
  · injection h with h; subst h; rename_i h1; refine ⟨lxIs_kind h1, by decide, by decide, by simp [ndWords], ?_⟩; rw [lxIs, Bool.and_eq_true, beq_iff_eq, beq_iff_eq] at h1; rw [h1.2]; simp [ndWords]
  · injection h with h; subst h; rename_i h1; refine ⟨lxIs_kind h1, by decide, by decide, by simp [ndWords], ?_⟩; rw [lxIs, Bool.and_eq_true, beq_iff_eq, beq_iff_eq] at h1; rw [h1.2]; simp [ndWords]
  · injection h with h; subst h; rename_i h1; refine ⟨lxIs_kind h1, by decide, by decide, by simp [ndWords], ?_⟩; rw [lxIs, Bool.and_eq_true, beq_iff_eq, beq_iff_eq] at h1; rw [h1.2]; simp [ndWords]
  · cases h
theorem posQ_in {xs : List Lx} (he : LxEnds xs) {s : Ps} {k : Int} (hs : s.k < xs.length) : (posQ xs k s).2.k < xs.length := by
  unfold posQ
  split
  · exact hs
  · exact numQ_in he hs
theorem nodeQ_in {xs : List Lx} (he : LxEnds xs) : ∀ (f : Nat) (lev : Int) (s : Ps) (acc : List Nd), s.k < xs.length → (nodeQ xs f lev s acc).1.k < xs.length
  | 0, lev, s, acc, hs => by rw [nodeQ]; exact nd3_in he hs
  | f + 1, lev, s, acc, hs => by
    have h3 := nd3_in he (lev := lev) (n := acc.length) hs
    obtain ⟨s3, hs3⟩ : ∃ s3, nd3 xs lev acc.length s = s3 := ⟨_, rfl⟩
    rw [hs3] at h3
    by_cases hz : s3.e ≠ 0
    · rw [nodeQ_bad hs3 hz]; exact h3
    · have hz := Decidable.not_not.1 hz
      cases hk : kindQ (lxAt xs s3.k) with
      | none => rw [nodeQ_none hs3 hz hk]; simp only; rw [failQ_k]; exact h3
      | some k =>
        have h4 : s3.k + 1 < xs.length := lxEnds_next he h3 (by rw [(kindQ_some hk).1]; decide)
        obtain ⟨p, s4, hp⟩ : ∃ p s4, posQ xs k ⟨s3.k + 1, 0, s3.off⟩ = (p, s4) := ⟨_, _, rfl⟩
        have h5 : s4.k < xs.length := by
          have := posQ_in he (k := k) (s := ⟨s3.k + 1, 0, s3.off⟩) h4
          rw [hp] at this
          exact this
        cases hr : ripP k with
        | false => rw [nodeQ_leaf hs3 hz hk hr hp]; exact takeQ_in he (by decide) h5
        | true =>
          obtain ⟨s5, acc5, e5⟩ : ∃ s5 acc5, nodeQ xs f (lev + 1) s4 (acc ++ [⟨k, p⟩]) = (s5, acc5) := ⟨_, _, rfl⟩
          obtain ⟨s6, acc6, e6⟩ : ∃ s6 acc6, nodeQ xs f (lev + 1) s5 acc5 = (s6, acc6) := ⟨_, _, rfl⟩
          have h6 := nodeQ_in he f (lev + 1) s4 (acc ++ [⟨k, p⟩]) h5
          rw [e5] at h6
          have h7 := nodeQ_in he f (lev + 1) s5 acc5 h6
          rw [e6] at h7
          rw [nodeQ_rip hs3 hz hk hr hp e5 e6]
          exact takeQ_in he (by decide) h7

/-! ### The lexemes of a tree are read back -/
theorem lxIs_bare (x : Lx) (k : Int) (t : List UInt8) : lxIs x.bare k t = lxIs x k t := rfl
theorem AtK.take {xs : List Lx} {s : Ps} {t : List UInt8} {k : Int} {x : Lx} {ts : List Lx} (he : s.e = 0) (h : AtK xs s.k (x :: ts)) (hx : lxIs x k t = true) : takeQ xs s k t = ⟨s.k + 1, 0, s.off⟩ ∧ AtK xs (s.k + 1) ts := by
  obtain ⟨h1, _, h3⟩ := AtK.step h
  have hq : tryQ xs s k t = true := by rw [tryQ, decide_eq_true he, ← lxIs_bare, h1, hx]; rfl
  rw [takeQ, if_pos hq, he]
  exact ⟨rfl, h3⟩
theorem num_read {xs : List Lx} {s : Ps} {n lo hi : Int} {ts : List Lx} (he : s.e = 0) (h : AtK xs s.k (numT n ++ ts)) (h0 : lo ≤ n) (h1 : n ≤ hi) : numQ xs s lo hi = (n, ⟨s.k + (numT n).length, 0, s.off⟩) ∧ AtK xs (s.k + (numT n).length) ts := by
  unfold numT at h ⊢
  by_cases hn : n < 0
  · rw [if_pos hn] at h ⊢
    obtain ⟨a1, _, a3⟩ := AtK.step h
    obtain ⟨b1, _, b3⟩ := AtK.step a3
    have hq : tryQ xs s 3 [45] = true := by rw [tryQ, decide_eq_true he, ← lxIs_bare, a1]; rfl
    have e1 : num1 xs s = ⟨s.k + 1, 0, s.off⟩ := by rw [num1, trySt, if_pos hq, he]
    have hk : (lxAt xs (s.k + 1)).kind = 2 := congrArg Lx.kind b1
    have hm : (lxAt xs (s.k + 1)).num = -n := congrArg Lx.num b1
    have e2 : num2 xs s = ⟨s.k + 1, 0, s.off⟩ := by
      rw [num2, e1, if_neg]
      rintro (h2 | ⟨_, h2⟩)
      · exact h2 hk
      · rw [hm] at h2; omega
    have ev : numV xs s = n := by rw [numV, if_pos hq, e1, hm]; omega
    refine ⟨?_, b3⟩
    rw [numQ, e2, if_neg (by simp), ev, if_neg (by omega)]
    rfl
  · rw [if_neg hn] at h ⊢
    obtain ⟨b1, _, b3⟩ := AtK.step h
    have hk : (lxAt xs s.k).kind = 2 := congrArg Lx.kind b1
    have hm : (lxAt xs s.k).num = n := congrArg Lx.num b1
    have hq : tryQ xs s 3 [45] = false := by
      rw [tryQ, lxIs, hk]
      simp
    have e1 : num1 xs s = s := by rw [num1, trySt, if_neg (by rw [hq]; decide)]
    have e2 : num2 xs s = s := by
      rw [num2, e1, if_neg]
      rintro (h2 | ⟨h2, _⟩)
      · exact h2 hk
      · rw [hq] at h2; cases h2
    have ev : numV xs s = n := by rw [numV, if_neg (by rw [hq]; decide), e1, hm]
    refine ⟨?_, b3⟩
    rw [numQ, e2, if_neg (by rw [he]; decide), ev, if_neg (by omega), he]
    rfl
theorem nd_kind {k p : Int} (h0 : 0 ≤ k) (h3 : k ≤ 3) : ∃ x ts, ndToks k p = x :: ts ∧ kindQ x = some k ∧ ts = if k = 0 then [] else numT p := by
  obtain rfl | rfl | rfl | rfl : k = 0 ∨ k = 1 ∨ k = 2 ∨ k = 3 := by omega
  · exact ⟨_, _, rfl, rfl, rfl⟩
  · exact ⟨_, _, rfl, rfl, rfl⟩
  · exact ⟨_, _, rfl, rfl, rfl⟩
  · exact ⟨_, _, rfl, rfl, rfl⟩
theorem kindQ_bare (x : Lx) : kindQ x.bare = kindQ x := rfl
theorem head_read {xs : List Lx} {s : Ps} {lev : Int} {acc : List Nd} {k p : Int} {ts : List Lx} (he : s.e = 0) (hlev : lev ≤ 64) (hacc : acc.length < 127) (hk0 : 0 ≤ k) (hk3 : k ≤ 3) (hl : inLim ⟨k, p⟩ = true) (h : AtK xs s.k (mkT [123] :: (ndToks k p ++ ts))) :
    nd3 xs lev acc.length s = ⟨s.k + 1, 0, s.off⟩ ∧ kindQ (lxAt xs (s.k + 1)) = some k ∧ posQ xs k ⟨s.k + 1 + 1, 0, s.off⟩ = (p, ⟨s.k + 1 + (ndToks k p).length, 0, s.off⟩) ∧ AtK xs (s.k + 1 + (ndToks k p).length) ts := by
  obtain ⟨a1, a2⟩ := AtK.take (k := 3) (t := [123]) he h rfl
  have e3 : nd3 xs lev acc.length s = ⟨s.k + 1, 0, s.off⟩ := by
    rw [nd3, if_neg (by omega), nd2, if_neg (by omega), nd1, a1]
  obtain ⟨x, us, hx, hq, hu⟩ := nd_kind (p := p) hk0 hk3
  have hsk := AtK.skip a2
  rw [hx, List.cons_append] at a2
  obtain ⟨b1, _, b3⟩ := AtK.step a2
  refine ⟨e3, by rw [← kindQ_bare, b1, hq], ?_, hsk⟩
  rw [hx, List.length_cons, hu]
  simp only [inLim, Bool.and_eq_true, decide_eq_true_eq] at hl
  by_cases hz : k = 0
  · subst hz
    have hp : p = 0 := by unfold loP hiP at hl; simp at hl; omega
    rw [posQ, if_pos rfl, if_pos rfl, hp]
    rfl
  · rw [posQ, if_neg hz, if_neg hz]
    rw [hu, if_neg hz] at b3
    obtain ⟨c1, _⟩ := num_read (s := ⟨s.k + 1 + 1, 0, s.off⟩) (lo := loP k) (hi := hiP k) rfl b3 hl.1 hl.2
    rw [c1]
    rw [show s.k + 1 + 1 + (numT p).length = s.k + 1 + ((numT p).length + 1) by omega]
theorem tree_read {xs : List Lx} : ∀ (t : Tr) (f : Nat) (lev : Int) (s : Ps) (acc : List Nd) (ts : List Lx), t.ok = true → (∀ n ∈ t.nodes, inLim n = true) → t.depth ≤ f → lev + t.depth ≤ 65 → acc.length + t.nodes.length ≤ 127 → s.e = 0 → AtK xs s.k (t.toks ++ ts) →
    nodeQ xs f lev s acc = (⟨s.k + t.toks.length, 0, s.off⟩, acc ++ t.nodes) ∧ AtK xs (s.k + t.toks.length) ts
  | t, 0, lev, s, acc, ts, _, _, hf, _, _, _, _ => by have := t.depth_pos; omega
  | .leaf k p, f + 1, lev, s, acc, ts, ho, hl, hf, hlev, hacc, he, h => by
    refine ⟨?_, AtK.skip h⟩
    rw [Tr.ok, Bool.or_eq_true, decide_eq_true_eq, decide_eq_true_eq] at ho
    rw [Tr.depth] at hlev
    simp only [Tr.nodes, List.length_cons, List.length_nil] at hacc
    rw [Tr.toks, List.cons_append, List.append_assoc] at h
    obtain ⟨a1, a2, a3, a4⟩ := head_read (lev := lev) (acc := acc) he (by omega) (by omega) (by omega) (by omega) (hl ⟨k, p⟩ (by simp [Tr.nodes])) h
    obtain ⟨b1, b2⟩ := AtK.take (s := ⟨s.k + 1 + (ndToks k p).length, 0, s.off⟩) (k := 3) (t := [125]) rfl a4 rfl
    rw [nodeQ_leaf a1 rfl a2 (by rw [← Bool.not_eq_true, ripP_iff]; omega) a3, b1, Tr.toks, Tr.nodes]
    simp only [List.length_cons, List.length_append, List.length_nil]
    congr 2
    omega
  | .rip k p a b, f + 1, lev, s, acc, ts, ho, hl, hf, hlev, hacc, he, h => by
    refine ⟨?_, AtK.skip h⟩
    rw [Tr.ok, Bool.and_eq_true, Bool.and_eq_true, Bool.or_eq_true, decide_eq_true_eq, decide_eq_true_eq] at ho
    obtain ⟨hk, hoa, hob⟩ := ho
    rw [Tr.depth] at hlev hf
    have da := a.depth_pos
    have db := b.depth_pos
    simp only [Tr.nodes, List.length_cons, List.length_append] at hacc
    rw [Tr.toks, List.cons_append, List.append_assoc, List.append_assoc, List.append_assoc] at h
    obtain ⟨a1, a2, a3, a4⟩ := head_read (lev := lev) (acc := acc) he (by omega) (by omega) (by omega) (by omega) (hl ⟨k, p⟩ (by simp [Tr.nodes])) h
    obtain ⟨c1, c2⟩ := tree_read a f (lev + 1) ⟨s.k + 1 + (ndToks k p).length, 0, s.off⟩ (acc ++ [⟨k, p⟩]) _ hoa (fun n hn => hl n (by simp [Tr.nodes, hn])) (by omega) (by omega) (by simp only [List.length_append, List.length_cons, List.length_nil]; omega) rfl a4
    obtain ⟨d1, d2⟩ := tree_read b f (lev + 1) ⟨s.k + 1 + (ndToks k p).length + a.toks.length, 0, s.off⟩ ((acc ++ [⟨k, p⟩]) ++ a.nodes) _ hob (fun n hn => hl n (by simp [Tr.nodes, hn])) (by omega) (by omega) (by simp only [List.length_append, List.length_cons, List.length_nil]; omega) rfl c2
    obtain ⟨b1, b2⟩ := AtK.take (k := 3) (t := [125]) (s := ⟨s.k + 1 + (ndToks k p).length + a.toks.length + b.toks.length, 0, s.off⟩) rfl d2 rfl
    rw [nodeQ_rip a1 rfl a2 (by rw [ripP_iff]; exact hk) a3 c1 d1, b1, Tr.toks, Tr.nodes]
    simp only [List.length_cons, List.length_append, List.length_nil, List.append_assoc, List.cons_append, List.nil_append]
    congr 2
    omega
theorem scan_text {r : Rc} {t : Tr} (hr : frameP r = true) (hl : t.nodes.length ≤ 127) (hn : ∀ n ∈ t.nodes, inLim n = true) : ∃ xs, scanP (textPt r t) = (xs, 0, 0) ∧ xs.map Lx.bare = headToks r ++ t.toks ++ [(lxEnd 0).bare] := by
  have hlen := textPt_len hr hl hn
  obtain ⟨ys, h1, h2, h3⟩ := textPt_lexes hr hn 0
  refine ⟨ys ++ [lxEnd (0 + (textPt r t).length)], by rw [scanP_eq _ (by omega), h1], ?_⟩
  rw [List.map_append, h2]
  rfl
/-- The text of a pattern is parsed back. -/
theorem parsePt_text {r : Rc} {t : Tr} (hr : frameP r = true) (ho : t.ok = true) (hd : t.depth ≤ 64) (hl : t.nodes.length ≤ 127) (hn : ∀ n ∈ t.nodes, inLim n = true) : parsePt (textPt r t) = ((r, t.nodes), 0, 0) := by
  obtain ⟨xs, hs, hx⟩ := scan_text hr hl hn
  have hf := frameP_iff.1 hr
  have h0 : AtK xs 0 (headToks r ++ t.toks ++ [(lxEnd 0).bare]) := ⟨[], by rw [List.drop_zero, hx, List.append_nil]⟩
  rw [headToks, List.append_assoc, List.cons_append, List.append_assoc, List.append_assoc, List.append_assoc] at h0
  obtain ⟨a1, a2⟩ := AtK.take (s := ⟨0, 0, 0⟩) (k := 1) (t := frameW) rfl h0 rfl
  have e1 : pq1 xs = ⟨0 + 1, 0, 0⟩ := a1
  obtain ⟨b1, b2⟩ := num_read (s := ⟨0 + 1, 0, 0⟩) (lo := -600) (hi := 600) rfl a2 (by omega) (by omega)
  obtain ⟨c1, c2⟩ := num_read (s := ⟨0 + 1 + (numT r.xa).length, 0, 0⟩) (lo := -600) (hi := 600) rfl b2 (by omega) (by omega)
  obtain ⟨d1, d2⟩ := num_read (s := ⟨0 + 1 + (numT r.xa).length + (numT r.xb).length, 0, 0⟩) (lo := -600) (hi := 600) rfl c2 (by omega) (by omega)
  obtain ⟨g1, g2⟩ := num_read (s := ⟨0 + 1 + (numT r.xa).length + (numT r.xb).length + (numT r.ya).length, 0, 0⟩) (lo := -600) (hi := 600) rfl d2 (by omega) (by omega)
  have eA : hdA xs = (r.xa, ⟨0 + 1 + (numT r.xa).length, 0, 0⟩) := by rw [hdA, e1, b1]
  have eB : hdB xs = (r.xb, ⟨0 + 1 + (numT r.xa).length + (numT r.xb).length, 0, 0⟩) := by rw [hdB, eA, c1]
  have eC : hdC xs = (r.ya, ⟨0 + 1 + (numT r.xa).length + (numT r.xb).length + (numT r.ya).length, 0, 0⟩) := by rw [hdC, eB, d1]
  have eD : hdD xs = (r.yb, ⟨0 + 1 + (numT r.xa).length + (numT r.xb).length + (numT r.ya).length + (numT r.yb).length, 0, 0⟩) := by rw [hdD, eC, g1]
  have e2 : pq2 xs = ⟨0 + 1 + (numT r.xa).length + (numT r.xb).length + (numT r.ya).length + (numT r.yb).length, 0, 0⟩ := by
    rw [pq2, eA, eB, eC, eD, if_neg (by simp only; omega)]
  obtain ⟨t1, t2⟩ := tree_read t 65 1 ⟨0 + 1 + (numT r.xa).length + (numT r.xb).length + (numT r.ya).length + (numT r.yb).length, 0, 0⟩ [] _ ho hn (by omega) (by omega) (by simpa using hl) rfl g2
  have eb : bodyQ xs = (⟨0 + 1 + (numT r.xa).length + (numT r.xb).length + (numT r.ya).length + (numT r.yb).length + t.toks.length, 0, 0⟩, t.nodes) := by rw [bodyQ, e2, t1, List.nil_append]
  have hz : (lxAt xs (0 + 1 + (numT r.xa).length + (numT r.xb).length + (numT r.ya).length + (numT r.yb).length + t.toks.length)).kind = 0 := congrArg Lx.kind (AtK.step t2).1
  have ee : endQ xs = ⟨0 + 1 + (numT r.xa).length + (numT r.xb).length + (numT r.ya).length + (numT r.yb).length + t.toks.length, 0, 0⟩ := by
    rw [endQ, eb, if_neg (by simp only; rw [hz]; decide)]
  rw [parsePt, hs]
  simp only
  rw [if_neg (by decide), ee, if_neg (by simp), eA, eB, eC, eD, eb]

/-! ### What is read -/
theorem take_inv {xs : List Lx} {s : Ps} {k : Int} {t : List UInt8} (hc : CanonP xs) (hk : k = 1 ∨ k = 3) (h : (takeQ xs s k t).e = 0) : s.e = 0 ∧ takeQ xs s k t = ⟨s.k + 1, 0, s.off⟩ ∧ Took xs s.k (s.k + 1) [if k = 1 then nmT t else mkT t] := by
  unfold takeQ at h ⊢
  by_cases hq : tryQ xs s k t = true
  · rw [if_pos hq] at h ⊢
    have hq2 := hq
    rw [tryQ, Bool.and_eq_true, decide_eq_true_eq] at hq2
    have hlx := hq2.2
    rw [lxIs, Bool.and_eq_true, beq_iff_eq, beq_iff_eq] at hlx
    have hne : (lxAt xs s.k).kind ≠ 0 := by rw [hlx.1]; omega
    refine ⟨hq2.1, by rw [hq2.1], Took.one (lxAt_lt hne) ?_⟩
    rcases hk with rfl | rfl
    · rw [if_pos rfl, bareP_name (hc.at_ hne) hlx.1, hlx.2]
    · rw [if_neg (by decide), bareP_mark (hc.at_ hne) hlx.1, hlx.2]
  · rw [if_neg hq] at h
    exact absurd h (failQ_e (by decide))
theorem num_inv {xs : List Lx} {s : Ps} {lo hi : Int} (hc : CanonP xs) (h : (numQ xs s lo hi).2.e = 0) : s.e = 0 ∧ lo ≤ (numQ xs s lo hi).1 ∧ (numQ xs s lo hi).1 ≤ hi ∧ (numQ xs s lo hi).2.off = s.off ∧ Took xs s.k (numQ xs s lo hi).2.k (numT (numQ xs s lo hi).1) := by
  unfold numQ at h ⊢
  by_cases h2 : (num2 xs s).e ≠ 0
  · rw [if_pos h2] at h; exact absurd h h2
  · rw [if_neg h2] at h ⊢
    obtain ⟨k2, m2, e2⟩ := num2_ok (Decidable.not_not.1 h2)
    by_cases hr : numV xs s < lo ∨ hi < numV xs s
    · simp only [if_pos hr] at h
      exact absurd h (failQ_e (by decide))
    · simp only [if_neg hr]
      have hne : (lxAt xs (num1 xs s).k).kind ≠ 0 := by rw [k2]; decide
      have hcan := hc.at_ hne
      have hb := bareP_num hcan k2
      have hnn : 0 ≤ (lxAt xs (num1 xs s).k).num := by
        rcases lexOK_canon hcan with ⟨q, _⟩ | ⟨_, _, q⟩ | ⟨q, _⟩
        · rw [k2] at q; cases q
        · exact q
        · rw [k2] at q; cases q
      have hone := Took.one (lxAt_lt hne) hb
      rw [e2] at h2 ⊢
      by_cases hq : tryQ xs s 3 [45] = true
      · have hq2 := hq
        rw [tryQ, Bool.and_eq_true, decide_eq_true_eq] at hq2
        have e1 : num1 xs s = ⟨s.k + 1, s.e, s.off⟩ := by rw [num1, trySt, if_pos hq]
        have hlx := hq2.2
        rw [lxIs, Bool.and_eq_true, beq_iff_eq, beq_iff_eq] at hlx
        have hne2 : (lxAt xs s.k).kind ≠ 0 := by rw [hlx.1]; decide
        have t1 := Took.one (lxAt_lt hne2) (bareP_mark (hc.at_ hne2) hlx.1)
        rw [hlx.2] at t1
        have hv : numV xs s = -(lxAt xs (num1 xs s).k).num := by rw [numV, if_pos hq]
        rw [e1] at m2 hv hone hnn ⊢
        simp only at m2 hv hone hnn ⊢
        have hpos : 0 < (lxAt xs (s.k + 1)).num := by
          rcases Int.lt_or_eq_of_le hnn with h | h
          · exact h
          · exact absurd ⟨hq, h.symm⟩ m2
        refine ⟨hq2.1, by omega, by omega, trivial, ?_⟩
        rw [hv, numT, if_pos (by omega), Int.neg_neg]
        exact t1.trans hone
      · have e1 : num1 xs s = s := by rw [num1, trySt, if_neg hq]
        have hv : numV xs s = (lxAt xs (num1 xs s).k).num := by rw [numV, if_neg hq]
        rw [e1] at hv hone hnn h2 ⊢
        refine ⟨Decidable.not_not.1 h2, by omega, by omega, rfl, ?_⟩
        rw [hv, numT, if_neg (by omega)]
        exact hone
theorem nd3_ok {xs : List Lx} {lev : Int} {n : Nat} {s : Ps} (h : (nd3 xs lev n s).e = 0) : lev ≤ 64 ∧ n < 127 ∧ nd3 xs lev n s = takeQ xs s 3 [123] := by
  unfold nd3 at h ⊢
  by_cases h1 : 64 < lev
  · rw [if_pos h1] at h; exact absurd h (failQ_e (by decide))
  · rw [if_neg h1] at h ⊢
    unfold nd2 at h ⊢
    by_cases h2 : 127 ≤ n
    · rw [if_pos h2] at h; exact absurd h (failQ_e (by decide))
    · rw [if_neg h2]
      exact ⟨by omega, by omega, rfl⟩
theorem pos_inv {xs : List Lx} {s : Ps} {k : Int} (hc : CanonP xs) (_hs : s.e = 0) (hk : 0 ≤ k ∧ k ≤ 3) (h : (posQ xs k s).2.e = 0) : inLim ⟨k, (posQ xs k s).1⟩ = true ∧ Took xs s.k (posQ xs k s).2.k (if k = 0 then [] else numT (posQ xs k s).1) := by
  unfold posQ at h ⊢
  by_cases h0 : k = 0
  · subst h0
    rw [if_pos rfl]
    refine ⟨by show inLim ⟨0, 0⟩ = true; decide, ?_⟩
    simp [Took]
  · rw [if_neg h0] at h ⊢
    rw [if_neg h0]
    obtain ⟨_, b1, b2, _, b4⟩ := num_inv hc h
    refine ⟨?_, b4⟩
    simp only [inLim, Bool.and_eq_true, decide_eq_true_eq]
    exact ⟨b1, b2⟩
theorem kind_toks {xs : List Lx} {j : Nat} {k p : Int} (hc : CanonP xs) (h : kindQ (lxAt xs j) = some k) : ∃ x, Took xs j (j + 1) [x] ∧ ndToks k p = x :: (if k = 0 then [] else numT p) := by
  obtain ⟨h1, h2, h3, _, h5⟩ := kindQ_some h
  have hne : (lxAt xs j).kind ≠ 0 := by rw [h1]; decide
  refine ⟨nmT (lxAt xs j).text, Took.one (lxAt_lt hne) (bareP_name (hc.at_ hne) h1), ?_⟩
  rw [h5]
  obtain rfl | rfl | rfl | rfl : k = 0 ∨ k = 1 ∨ k = 2 ∨ k = 3 := by omega
  all_goals simp [ndToks, ndWords]
theorem node_inv {xs : List Lx} (hc : CanonP xs) : ∀ (f : Nat) (lev : Int) (s : Ps) (acc : List Nd), 65 ≤ lev + f → (nodeQ xs f lev s acc).1.e = 0 →
    s.e = 0 ∧ ∃ t : Tr, t.ok = true ∧ (∀ n ∈ t.nodes, inLim n = true) ∧ lev + t.depth ≤ 65 ∧ (nodeQ xs f lev s acc).2 = acc ++ t.nodes ∧ acc.length + t.nodes.length ≤ 127 ∧ Took xs s.k (nodeQ xs f lev s acc).1.k t.toks
  | 0, lev, s, acc, hf, h => by
    rw [nodeQ] at h
    have := (nd3_ok h).1
    omega
  | f + 1, lev, s, acc, hf, h => by
    obtain ⟨s3, hs3⟩ : ∃ s3, nd3 xs lev acc.length s = s3 := ⟨_, rfl⟩
    by_cases hz : s3.e ≠ 0
    · rw [nodeQ_bad hs3 hz] at h; exact absurd h hz
    · have hz := Decidable.not_not.1 hz
      obtain ⟨l64, n127, e3⟩ := nd3_ok (by rw [hs3]; exact hz)
      rw [hs3] at e3
      obtain ⟨se, e4, tk⟩ := take_inv hc (.inr rfl) (by rw [← e3]; exact hz)
      rw [e4] at e3
      subst e3
      rw [if_neg (by decide)] at tk
      cases hk : kindQ (lxAt xs (s.k + 1)) with
      | none =>
        rw [nodeQ_none hs3 hz hk] at h
        exact absurd h (failQ_e (by decide))
      | some k =>
        obtain ⟨_, k0, k3, _⟩ := kindQ_some hk
        obtain ⟨p, s4, hp⟩ : ∃ p s4, posQ xs k ⟨s.k + 1 + 1, 0, s.off⟩ = (p, s4) := ⟨_, _, rfl⟩
        obtain ⟨x, kx, ktk⟩ := kind_toks (p := p) hc hk
        cases hr : ripP k with
        | false =>
          have hkk : k = 0 ∨ k = 1 := by
            have := mt ripP_iff.2 (by rw [hr]; decide : ¬ ripP k = true)
            omega
          rw [nodeQ_leaf hs3 hz hk hr hp] at h ⊢
          obtain ⟨q4, e5, tk5⟩ := take_inv hc (.inr rfl) h
          rw [if_neg (by decide)] at tk5
          obtain ⟨pl, pt⟩ := pos_inv (s := ⟨s.k + 1 + 1, 0, s.off⟩) hc rfl ⟨k0, k3⟩ (by rw [hp]; exact q4)
          rw [hp] at pl pt
          simp only at pl pt
          refine ⟨se, .leaf k p, ?_, ?_, ?_, rfl, ?_, ?_⟩
          · rw [Tr.ok, Bool.or_eq_true, decide_eq_true_eq, decide_eq_true_eq]; exact hkk
          · intro n hn
            simp only [Tr.nodes, List.mem_singleton] at hn
            subst hn
            exact pl
          · rw [Tr.depth]; omega
          · simp only [Tr.nodes, List.length_cons, List.length_nil]; omega
          · rw [e5, Tr.toks, ktk]
            have := ((tk.trans kx).trans pt).trans tk5
            simpa using this
        | true =>
          obtain ⟨s5, acc5, e5⟩ : ∃ s5 acc5, nodeQ xs f (lev + 1) s4 (acc ++ [⟨k, p⟩]) = (s5, acc5) := ⟨_, _, rfl⟩
          obtain ⟨s6, acc6, e6⟩ : ∃ s6 acc6, nodeQ xs f (lev + 1) s5 acc5 = (s6, acc6) := ⟨_, _, rfl⟩
          rw [nodeQ_rip hs3 hz hk hr hp e5 e6] at h ⊢
          obtain ⟨q6, e7, tk7⟩ := take_inv hc (.inr rfl) h
          rw [if_neg (by decide)] at tk7
          obtain ⟨i1, tb, b1, b2, b3, b4, b5, b6⟩ := node_inv hc f (lev + 1) s5 acc5 (by omega) (by rw [e6]; exact q6)
          obtain ⟨j1, ta, a1, a2, a3, a4, a5, a6⟩ := node_inv hc f (lev + 1) s4 (acc ++ [⟨k, p⟩]) (by omega) (by rw [e5]; exact i1)
          obtain ⟨pl, pt⟩ := pos_inv (s := ⟨s.k + 1 + 1, 0, s.off⟩) hc rfl ⟨k0, k3⟩ (by rw [hp]; exact j1)
          rw [hp] at pl pt
          rw [e6] at b4 b6
          rw [e5] at a4 a6
          simp only at pl pt b4 b6 a4 a6
          subst a4
          refine ⟨se, .rip k p ta tb, ?_, ?_, ?_, ?_, ?_, ?_⟩
          · rw [Tr.ok, a1, b1, Bool.and_true, Bool.and_true, Bool.or_eq_true, decide_eq_true_eq, decide_eq_true_eq]; exact ripP_iff.1 hr
          · intro n hn
            simp only [Tr.nodes, List.mem_cons, List.mem_append] at hn
            rcases hn with rfl | hn | hn
            · exact pl
            · exact a2 n hn
            · exact b2 n hn
          · rw [Tr.depth]; omega
          · rw [b4, Tr.nodes]; simp
          · simp only [Tr.nodes, List.length_cons, List.length_append, List.length_nil] at b5 ⊢; omega
          · rw [e7, Tr.toks, ktk]
            have := ((((tk.trans kx).trans pt).trans a6).trans b6).trans tk7
            simpa using this
/-- What is parsed: a pattern that has a text, with the same lexemes. -/
theorem parsePt_ok {s : List UInt8} {r : Rc} {ns : List Nd} {a : Int} (h : parsePt s = ((r, ns), 0, a)) :
    a = 0 ∧ ∃ t : Tr, t.ok = true ∧ ns = t.nodes ∧ frameP r = true ∧ t.depth ≤ 64 ∧ t.nodes.length ≤ 127 ∧ (∀ n ∈ t.nodes, inLim n = true) ∧ ∃ xs bs, scanP s = (xs, 0, 0) ∧ scanP (textPt r t) = (bs, 0, 0) ∧ sameP xs bs = true := by
  obtain ⟨xs, e, at_, hsc⟩ : ∃ xs e at_, scanP s = (xs, e, at_) := ⟨_, _, _, rfl⟩
  unfold parsePt at h
  rw [hsc] at h
  simp only at h
  by_cases he : e ≠ 0
  · rw [if_pos he] at h
    exact absurd (congrArg (·.2.1) h) he
  · rw [if_neg he] at h
    have he := Decidable.not_not.1 he
    subst he
    have ha0 : at_ = 0 := by have := (scanP_good s (by rw [hsc])).2.1; rw [hsc] at this; exact this
    subst ha0
    by_cases hq : (endQ xs).e ≠ 0
    · rw [if_pos hq] at h
      exact absurd (congrArg (·.2.1) h) hq
    · rw [if_neg hq] at h
      have hq := Decidable.not_not.1 hq
      simp only [Prod.mk.injEq, true_and] at h
      obtain ⟨⟨hr, hns⟩, rfl⟩ := h
      obtain ⟨ys, rfl, hk, hok, h8⟩ := scanP_can hsc
      have hc := canonP_of (pe := s.length) hok
      have hend := endsP (p := s.length) hk
      obtain ⟨X, hX⟩ : ∃ X, ys ++ [lxEnd (s.length : Int)] = X := ⟨_, rfl⟩
      rw [hX] at hc hend hq hr hns hsc
      have hq1 : (lxAt X (bodyQ X).1.k).kind = 0 ∧ (bodyQ X).1.e = 0 := by
        unfold endQ at hq
        by_cases h1 : (lxAt X (bodyQ X).1.k).kind ≠ 0
        · rw [if_pos h1] at hq; exact absurd hq (failQ_e (by decide))
        · rw [if_neg h1] at hq; exact ⟨Decidable.not_not.1 h1, hq⟩
      obtain ⟨pq2e, t, t1, t2, t3, t4, t5, t6⟩ := node_inv hc 65 1 (pq2 X) [] (by omega) hq1.2
      rw [List.nil_append] at t4
      have pq2f : ¬ ((hdB X).1 ≤ (hdA X).1 ∨ (hdD X).1 ≤ (hdC X).1) ∧ pq2 X = (hdD X).2 := by
        unfold pq2 at pq2e ⊢
        by_cases h1 : (hdB X).1 ≤ (hdA X).1 ∨ (hdD X).1 ≤ (hdC X).1
        · rw [if_pos h1] at pq2e; exact absurd pq2e (failQ_e (by decide))
        · rw [if_neg h1]; exact ⟨h1, rfl⟩
      rw [pq2f.2] at pq2e t6
      obtain ⟨eC, d1, d2, _, d4⟩ := num_inv hc (s := (hdC X).2) pq2e
      obtain ⟨eB, c1, c2, _, c4⟩ := num_inv hc (s := (hdB X).2) eC
      obtain ⟨eA, b1, b2, _, b4⟩ := num_inv hc (s := (hdA X).2) eB
      obtain ⟨e1, a1, a2, _, a4⟩ := num_inv hc (s := pq1 X) eA
      obtain ⟨_, f1, f2⟩ := take_inv hc (s := ⟨0, 0, 0⟩) (.inl rfl) e1
      rw [if_pos rfl] at f2
      have hf : frameP r = true := by
        rw [← hr, frameP_iff]
        have := pq2f.1
        simp only at this ⊢
        change -600 ≤ (hdD X).1 at d1
        change (hdD X).1 ≤ 600 at d2
        change -600 ≤ (hdC X).1 at c1
        change (hdC X).1 ≤ 600 at c2
        change -600 ≤ (hdB X).1 at b1
        change (hdB X).1 ≤ 600 at b2
        change -600 ≤ (hdA X).1 at a1
        change (hdA X).1 ≤ 600 at a2
        omega
      have hl127 : t.nodes.length ≤ 127 := by simpa using t5
      refine ⟨rfl, t, t1, by rw [← hns]; exact t4, hf, by omega, hl127, t2, ?_⟩
      obtain ⟨bs, hb1, hb2⟩ := scan_text hf hl127 t2
      refine ⟨X, bs, by rw [← hX]; rw [hX]; exact hsc, hb1, ?_⟩
      rw [sameP_bare, hb2]
      have hk1 : (pq1 X).k = 0 + 1 := by rw [pq1, f1]
      have F : Took X 0 (bodyQ X).1.k (headToks r ++ t.toks) := by
        have g1 : Took X (pq1 X).k (hdA X).2.k (numT (hdA X).1) := a4
        have g2 : Took X (hdA X).2.k (hdB X).2.k (numT (hdB X).1) := b4
        have g3 : Took X (hdB X).2.k (hdC X).2.k (numT (hdC X).1) := c4
        have g4 : Took X (hdC X).2.k (hdD X).2.k (numT (hdD X).1) := d4
        have g5 : Took X (hdD X).2.k (bodyQ X).1.k t.toks := by
          have := t6
          rw [← pq2f.2] at this
          rw [← pq2f.2]
          exact this
        rw [hk1] at g1
        have := ((((f2.trans g1).trans g2).trans g3).trans g4).trans g5
        rw [← hr]
        simpa [headToks] using this
      have hlast : (bodyQ X).1.k = ys.length := by
        have hin : (bodyQ X).1.k < X.length := by
          have h0 : (0 : Nat) < X.length := by rw [← hX]; simp
          refine nodeQ_in hend 65 1 (pq2 X) [] ?_
          rw [pq2f.2]
          exact numQ_in hend (numQ_in hend (numQ_in hend (numQ_in hend (takeQ_in hend (by decide) h0))))
        have hlen : X.length = ys.length + 1 := by rw [← hX]; simp
        by_cases hlt : (bodyQ X).1.k < ys.length
        · have := hq1.1
          rw [← hX] at this hlt
          rw [lxAt, List.getElem?_append_left hlt, List.getElem?_eq_getElem hlt] at this
          exact absurd this (hk _ (List.getElem_mem hlt))
        · omega
      rw [Took, hlast, List.drop_zero] at F
      rw [F, ← hX, List.drop_left]
      rfl
end Saw
