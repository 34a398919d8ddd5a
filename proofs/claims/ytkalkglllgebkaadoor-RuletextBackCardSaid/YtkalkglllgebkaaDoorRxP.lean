/-
  Plain: expressions over features as forests; what is well-formed, its text; reading an expression from lexemes.
  Plain: the lexemes of an expression's text, and how they are read.
  Plain: a well-formed expression is read back from the lexemes of its text.
  Plain: ParseExpr, Format and Parse of rules; a text of what is well-formed is read back; what is read is formed.
  Plain: texts of expressions and of tables are read back.
  Plain: what is read costs no more than the lexemes from which it is read.
  Plain: the lexemes and the bytes of the texts of what is read.
  Plain: expressions in parentheses within a text; the equal ways of writing them.
-/
import Derived.Test.YtkalkglllgebkaaDoorPrTi
namespace Saw

/-- A list of expressions: each a node with its operator, number, name and arguments. -/
inductive Fo where
  | nil : Fo
  | cons (op n : Int) (name : List UInt8) (kids rest : Fo) : Fo
deriving DecidableEq
/-- An expression. -/
structure Ex where
  op : Int
  n : Int
  name : List UInt8
  kids : Fo
deriving DecidableEq
namespace Fo
def toList : Fo → List Ex
  | nil => []
  | cons o n m k r => ⟨o, n, m, k⟩ :: r.toList
def ofList : List Ex → Fo
  | [] => nil
  | x :: r => cons x.op x.n x.name x.kids (ofList r)
theorem toList_ofList : ∀ l : List Ex, (ofList l).toList = l
  | [] => rfl
  | x :: r => by rw [ofList, toList, toList_ofList r]
theorem ofList_toList : ∀ f : Fo, ofList f.toList = f
  | nil => rfl
  | cons o n m k r => by rw [toList, ofList, ofList_toList r]
theorem toList_inj {a b : Fo} (h : a.toList = b.toList) : a = b := by rw [← ofList_toList a, h, ofList_toList]
/-- The number of nodes. -/
def size : Fo → Nat
  | nil => 0
  | cons _ _ _ k r => 1 + k.size + r.size
def depth : Fo → Nat
  | nil => 0
  | cons _ _ _ k r => max (k.depth + 1) r.depth
end Fo
def Ex.zero : Ex := ⟨0, 0, [], .nil⟩
def Ex.size (x : Ex) : Nat := 1 + x.kids.size
def Ex.depth (x : Ex) : Nat := x.kids.depth + 1
theorem size_mem : ∀ {f : Fo} {x : Ex}, x ∈ f.toList → x.size ≤ f.size
  | .nil, _, h => by cases h
  | .cons o n m k r, x, h => by
    rw [Fo.toList] at h
    rw [Fo.size]
    rcases List.mem_cons.1 h with rfl | h
    · simp only [Ex.size]; omega
    · have := size_mem h; omega
theorem depth_mem : ∀ {f : Fo} {x : Ex}, x ∈ f.toList → x.depth ≤ f.depth
  | .nil, _, h => by cases h
  | .cons o n m k r, x, h => by
    rw [Fo.toList] at h
    rw [Fo.depth]
    rcases List.mem_cons.1 h with rfl | h
    · simp only [Ex.depth]; omega
    · have := depth_mem h; omega

/-! ### Well-formed -/
def andW : List UInt8 := [97, 110, 100]
def orW : List UInt8 := [111, 114]
def notW : List UInt8 := [110, 111, 116]
def whenW : List UInt8 := [119, 104, 101, 110]
def gradeW : List UInt8 := [103, 114, 97, 100, 101]
def namedP (s : List UInt8) : Bool := isNameP s && !(s == andW || s == orW || s == notW || s == whenW || s == gradeW)
/-- The number of arguments of an operator. -/
def takesP (op : Int) : Nat := if op = 1 ∨ op = 2 then 0 else if op = 9 then 1 else 2
/-- A node by itself. -/
def headP (op n : Int) (name : List UInt8) (kids : Nat) : Bool :=
  decide (1 ≤ op) && decide (op ≤ 11) && decide (kids = takesP op) && decide (-1099511627776 ≤ n) && decide (n ≤ 1099511627776) && (decide (n = 0) || decide (op = 1)) && (if op = 2 then namedP name else name == [])
def formedF : Fo → Bool
  | .nil => true
  | .cons o n m k r => headP o n m k.toList.length && formedF k && formedF r
def formedE (x : Ex) : Bool := headP x.op x.n x.name x.kids.toList.length && formedF x.kids
theorem formed_mem : ∀ {f : Fo}, formedF f = true → ∀ x ∈ f.toList, formedE x = true
  | .nil, _, x, h => by cases h
  | .cons o n m k r, hf, x, h => by
    rw [formedF, Bool.and_eq_true, Bool.and_eq_true] at hf
    rw [Fo.toList] at h
    rcases List.mem_cons.1 h with rfl | h
    · rw [formedE, Bool.and_eq_true]; exact hf.1
    · exact formed_mem hf.2 x h
theorem formed_of : ∀ {f : Fo}, (∀ x ∈ f.toList, formedE x = true) → formedF f = true
  | .nil, _ => rfl
  | .cons o n m k r, h => by
    have h1 := h ⟨o, n, m, k⟩ (by rw [Fo.toList]; exact List.mem_cons_self)
    rw [formedE, Bool.and_eq_true] at h1
    rw [formedF, Bool.and_eq_true, Bool.and_eq_true]
    exact ⟨h1, formed_of fun x hx => h x (by rw [Fo.toList]; exact List.mem_cons_of_mem _ hx)⟩
def wellP (x : Ex) : Bool := formedE x && decide (x.depth ≤ 8)

/-! ### Texts -/
/-- How strongly an operator binds. -/
def ownP (op : Int) : Int := if op = 11 then 1 else if op = 10 then 2 else if op = 9 then 3 else if op = 6 ∨ op = 7 ∨ op = 8 then 4 else if op = 3 ∨ op = 4 then 5 else if op = 5 then 6 else 7
def firstP (op : Int) : Int := if ownP op = 4 then 5 else ownP op
def secondP (op : Int) : Int := if ownP op = 4 then 5 else ownP op + 1
def signP (op : Int) : List UInt8 := if op = 3 then [43] else if op = 4 then [45] else if op = 5 then [42] else if op = 6 then [61] else if op = 7 then [60] else if op = 8 then [60, 61] else if op = 10 then andW else orW
def within (p : Int × List UInt8) (least : Int) : List UInt8 := if p.1 < least then [40] ++ p.2 ++ [41] else p.2
def rawP (op n : Int) (name : List UInt8) (l : List (Int × List UInt8)) : List UInt8 :=
  if op = 1 then Go.Lib.itoa n else if op = 2 then name else if op = 9 then notW ++ [32] ++ within (l.getD 0 (0, [])) 3
  else within (l.getD 0 (0, [])) (firstP op) ++ [32] ++ signP op ++ [32] ++ within (l.getD 1 (0, [])) (secondP op)
/-- Each element's strength and text. -/
def txs : Fo → List (Int × List UInt8)
  | .nil => []
  | .cons o n m k r => (ownP o, rawP o n m (txs k)) :: txs r
def txE (x : Ex) : Int × List UInt8 := (ownP x.op, rawP x.op x.n x.name (txs x.kids))
theorem txs_map : ∀ f : Fo, txs f = f.toList.map txE
  | .nil => rfl
  | .cons o n m k r => by rw [txs, Fo.toList, List.map_cons, txs_map r]; rfl
def exprP (x : Ex) : List UInt8 := if wellP x = true then (txE x).2 else []

/-! ### Reading -/
/-- What is read: an expression and where the reader then is, or an error and its offset. -/
inductive RR where
  | ok (e : Ex) (k : Nat)
  | bad (er off : Int)
/-- What the reader is about to read; the loops have what they read so far. -/
inductive Lv where
  | expr
  | orL (e : Ex)
  | conj
  | andL (e : Ex)
  | neg
  | comp
  | sum
  | addL (e : Ex)
  | term
  | mulL (e : Ex)
  | fact
def two (op : Int) (a b : Ex) : Ex := ⟨op, 0, [], .cons a.op a.n a.name a.kids (.cons b.op b.n b.name b.kids .nil)⟩
def one (op : Int) (a : Ex) : Ex := ⟨op, 0, [], .cons a.op a.n a.name a.kids .nil⟩
/-- What a comparison's mark makes of its two sides. -/
def cmpE (t : List UInt8) (a b : Ex) : Ex :=
  if t = [61] then two 6 a b else if t = [33, 61] then one 9 (two 6 a b) else if t = [60] then two 7 a b else if t = [60, 61] then two 8 a b else if t = [62] then two 7 b a else two 8 b a
def isCmp (t : List UInt8) : Bool := t == [61] || t == [33, 61] || t == [60] || t == [60, 61] || t == [62] || t == [62, 61]
def andThen : Option RR → (Ex → Nat → Option RR) → Option RR
  | none, _ => none
  | some (.bad er off), _ => some (.bad er off)
  | some (.ok e k), f => f e k
def isWd (xs : List Lx) (k : Nat) (w : List UInt8) : Bool := lxIs (lxAt xs k) 1 w
def isMk (xs : List Lx) (k : Nat) (w : List UInt8) : Bool := lxIs (lxAt xs k) 3 w
def rd (xs : List Lx) : Nat → Lv → Nat → Option RR
  | 0, _, _ => none
  | n + 1, .expr, k => andThen (rd xs n .conj k) fun e k' => rd xs n (.orL e) k'
  | n + 1, .orL e, k => if isWd xs k orW then andThen (rd xs n .conj (k + 1)) fun e' k' => rd xs n (.orL (two 11 e e')) k' else some (.ok e k)
  | n + 1, .conj, k => andThen (rd xs n .neg k) fun e k' => rd xs n (.andL e) k'
  | n + 1, .andL e, k => if isWd xs k andW then andThen (rd xs n .neg (k + 1)) fun e' k' => rd xs n (.andL (two 10 e e')) k' else some (.ok e k)
  | n + 1, .neg, k => if isWd xs k notW then andThen (rd xs n .neg (k + 1)) fun e k' => some (.ok (one 9 e) k') else rd xs n .comp k
  | n + 1, .comp, k => andThen (rd xs n .sum k) fun a k' =>
      if (lxAt xs k').kind = 3 ∧ isCmp (lxAt xs k').text = true then andThen (rd xs n .sum (k' + 1)) fun b k2 => some (.ok (cmpE (lxAt xs k').text a b) k2) else some (.ok a k')
  | n + 1, .sum, k => andThen (rd xs n .term k) fun e k' => rd xs n (.addL e) k'
  | n + 1, .addL e, k =>
    if isMk xs k [43] then andThen (rd xs n .term (k + 1)) fun e' k' => rd xs n (.addL (two 3 e e')) k'
    else if isMk xs k [45] then andThen (rd xs n .term (k + 1)) fun e' k' => rd xs n (.addL (two 4 e e')) k'
    else some (.ok e k)
  | n + 1, .term, k => andThen (rd xs n .fact k) fun e k' => rd xs n (.mulL e) k'
  | n + 1, .mulL e, k => if isMk xs k [42] then andThen (rd xs n .fact (k + 1)) fun e' k' => rd xs n (.mulL (two 5 e e')) k' else some (.ok e k)
  | n + 1, .fact, k =>
    if (lxAt xs k).kind = 2 then some (.ok ⟨1, (lxAt xs k).num, [], .nil⟩ (k + 1))
    else if (lxAt xs k).kind = 1 then (if namedP (lxAt xs k).text = true then some (.ok ⟨2, 0, (lxAt xs k).text, .nil⟩ (k + 1)) else some (.bad 6 (lxAt xs k).off))
    else if isMk xs k [45] then
      (if (lxAt xs (k + 1)).kind = 2 ∧ (lxAt xs (k + 1)).num ≠ 0 then some (.ok ⟨1, -(lxAt xs (k + 1)).num, [], .nil⟩ (k + 2)) else some (.bad 5 (lxAt xs (k + 1)).off))
    else if isMk xs k [40] then andThen (rd xs n .expr (k + 1)) fun e k' => if isMk xs k' [41] then some (.ok e (k' + 1)) else some (.bad 5 (lxAt xs k').off)
    else some (.bad 5 (lxAt xs k).off)

theorem andThen_some {r : Option RR} {f : Ex → Nat → Option RR} {s : RR} (h : andThen r f = some s) : (∃ er off, r = some (.bad er off) ∧ s = .bad er off) ∨ ∃ e k, r = some (.ok e k) ∧ f e k = some s := by
  cases r with
  | none => cases h
  | some r =>
    cases r with
    | bad er off => injection h with h; exact .inl ⟨er, off, rfl, h.symm⟩
    | ok e k => exact .inr ⟨e, k, rfl, h⟩
theorem andThen_mono {r r' : Option RR} {f f' : Ex → Nat → Option RR} {s : RR} (hr : ∀ t, r = some t → r' = some t) (hf : ∀ e k t, f e k = some t → f' e k = some t) (h : andThen r f = some s) : andThen r' f' = some s := by
  rcases andThen_some h with ⟨er, off, h1, h2⟩ | ⟨e, k, h1, h2⟩
  · rw [hr _ h1, h2]; rfl
  · rw [hr _ h1]; exact hf e k s h2
/-- More fuel changes nothing. -/
theorem rd_succ (xs : List Lx) : ∀ (n : Nat) (lv : Lv) (k : Nat) (r : RR), rd xs n lv k = some r → rd xs (n + 1) lv k = some r := by
  intro n
  induction n with
  | zero => intro lv k r h; cases h
  | succ n ih =>
    intro lv k r h
    cases lv with
    | expr => exact andThen_mono (fun t => ih _ _ t) (fun e k' t => ih _ _ t) h
    | orL e =>
      rw [rd] at h ⊢
      split at h
      · rename_i h1; rw [if_pos h1]; exact andThen_mono (fun t => ih _ _ t) (fun e k' t => ih _ _ t) h
      · rename_i h1; rw [if_neg h1]; exact h
    | conj => exact andThen_mono (fun t => ih _ _ t) (fun e k' t => ih _ _ t) h
    | andL e =>
      rw [rd] at h ⊢
      split at h
      · rename_i h1; rw [if_pos h1]; exact andThen_mono (fun t => ih _ _ t) (fun e k' t => ih _ _ t) h
      · rename_i h1; rw [if_neg h1]; exact h
    | neg =>
      rw [rd] at h ⊢
      split at h
      · rename_i h1; rw [if_pos h1]; exact andThen_mono (fun t => ih _ _ t) (fun e k' t ht => ht) h
      · rename_i h1; rw [if_neg h1]; exact ih _ _ _ h
    | comp =>
      rw [rd] at h ⊢
      refine andThen_mono (fun t => ih _ _ t) (fun a k' t ht => ?_) h
      split at ht
      · rename_i h1; rw [if_pos h1]; exact andThen_mono (fun t => ih _ _ t) (fun b k2 t ht => ht) ht
      · rename_i h1; rw [if_neg h1]; exact ht
    | sum => exact andThen_mono (fun t => ih _ _ t) (fun e k' t => ih _ _ t) h
    | addL e =>
      rw [rd] at h ⊢
      split at h
      · rename_i h1; rw [if_pos h1]; exact andThen_mono (fun t => ih _ _ t) (fun e k' t => ih _ _ t) h
      · rename_i h1
        rw [if_neg h1]
        split at h
        · rename_i h2; rw [if_pos h2]; exact andThen_mono (fun t => ih _ _ t) (fun e k' t => ih _ _ t) h
        · rename_i h2; rw [if_neg h2]; exact h
    | term => exact andThen_mono (fun t => ih _ _ t) (fun e k' t => ih _ _ t) h
    | mulL e =>
      rw [rd] at h ⊢
      split at h
      · rename_i h1; rw [if_pos h1]; exact andThen_mono (fun t => ih _ _ t) (fun e k' t => ih _ _ t) h
      · rename_i h1; rw [if_neg h1]; exact h
    | fact =>
      rw [rd] at h ⊢
      split at h
      · rename_i h1; rw [if_pos h1]; exact h
      · rename_i h1
        rw [if_neg h1]
        split at h
        · rename_i h2; rw [if_pos h2]; exact h
        · rename_i h2
          rw [if_neg h2]
          split at h
          · rename_i h3; rw [if_pos h3]; exact h
          · rename_i h3
            rw [if_neg h3]
            split at h
            · rename_i h4; rw [if_pos h4]; exact andThen_mono (fun t => ih _ _ t) (fun e k' t ht => ht) h
            · rename_i h4; rw [if_neg h4]; exact h
theorem rd_mono {xs : List Lx} {n m : Nat} {lv : Lv} {k : Nat} {r : RR} (h : rd xs n lv k = some r) (hm : n ≤ m) : rd xs m lv k = some r := by
  induction hm with
  | refl => exact h
  | step _ ih => exact rd_succ xs _ _ _ _ ih
theorem rd_uniq {xs : List Lx} {n m : Nat} {lv : Lv} {k : Nat} {r s : RR} (h : rd xs n lv k = some r) (h' : rd xs m lv k = some s) : r = s := by
  have h1 := rd_mono h (Nat.le_max_left n m)
  have h2 := rd_mono h' (Nat.le_max_right n m)
  rw [h1] at h2
  injection h2

/-- Whether a level reads at least one lexeme. -/
def Lv.step : Lv → Nat
  | .orL _ => 0
  | .andL _ => 0
  | .addL _ => 0
  | .mulL _ => 0
  | _ => 1
theorem andThen_ok {r : Option RR} {f : Ex → Nat → Option RR} {e : Ex} {k : Nat} (h : andThen r f = some (.ok e k)) : ∃ e' k', r = some (.ok e' k') ∧ f e' k' = some (.ok e k) := by
  rcases andThen_some h with ⟨er, off, _, h2⟩ | ⟨e', k', h1, h2⟩
  · cases h2
  · exact ⟨e', k', h1, h2⟩
theorem lxIs_kind' {x : Lx} {kind : Int} {t : List UInt8} (h : lxIs x kind t = true) : x.kind = kind := by
  rw [lxIs, Bool.and_eq_true, beq_iff_eq] at h; exact h.1
theorem isWd_in {xs : List Lx} (he : LxEnds xs) {k : Nat} {w : List UInt8} (hk : k < xs.length) (h : isWd xs k w = true) : k + 1 < xs.length := lxEnds_next he hk (by rw [lxIs_kind' h]; decide)
theorem isMk_in {xs : List Lx} (he : LxEnds xs) {k : Nat} {w : List UInt8} (hk : k < xs.length) (h : isMk xs k w = true) : k + 1 < xs.length := lxEnds_next he hk (by rw [lxIs_kind' h]; decide)
/-- The reader moves on, within the lexemes. -/
theorem rd_in {xs : List Lx} (he : LxEnds xs) : ∀ (n : Nat) (lv : Lv) (k : Nat) (e : Ex) (k' : Nat), k < xs.length → rd xs n lv k = some (.ok e k') → k + lv.step ≤ k' ∧ k' < xs.length := by
  intro n
  induction n with
  | zero => intro lv k e k' _ h; cases h
  | succ n ih =>
    intro lv k e k' hk h
    cases lv with
    | expr =>
      rw [rd] at h
      obtain ⟨e1, k1, h1, h2⟩ := andThen_ok h
      obtain ⟨a1, a2⟩ := ih _ _ _ _ hk h1
      obtain ⟨b1, b2⟩ := ih _ _ _ _ a2 h2
      simp only [Lv.step] at *
      omega
    | orL e0 =>
      rw [rd] at h
      split at h
      · rename_i hw
        obtain ⟨e1, k1, h1, h2⟩ := andThen_ok h
        obtain ⟨a1, a2⟩ := ih _ _ _ _ (isWd_in he hk hw) h1
        obtain ⟨b1, b2⟩ := ih _ _ _ _ a2 h2
        simp only [Lv.step] at *
        omega
      · injection h with h; injection h with h1 h2; subst h2; exact ⟨Nat.le_refl _, hk⟩
    | conj =>
      rw [rd] at h
      obtain ⟨e1, k1, h1, h2⟩ := andThen_ok h
      obtain ⟨a1, a2⟩ := ih _ _ _ _ hk h1
      obtain ⟨b1, b2⟩ := ih _ _ _ _ a2 h2
      simp only [Lv.step] at *
      omega
    | andL e0 =>
      rw [rd] at h
      split at h
      · rename_i hw
        obtain ⟨e1, k1, h1, h2⟩ := andThen_ok h
        obtain ⟨a1, a2⟩ := ih _ _ _ _ (isWd_in he hk hw) h1
        obtain ⟨b1, b2⟩ := ih _ _ _ _ a2 h2
        simp only [Lv.step] at *
        omega
      · injection h with h; injection h with h1 h2; subst h2; exact ⟨Nat.le_refl _, hk⟩
    | neg =>
      rw [rd] at h
      split at h
      · rename_i hw
        obtain ⟨e1, k1, h1, h2⟩ := andThen_ok h
        obtain ⟨a1, a2⟩ := ih _ _ _ _ (isWd_in he hk hw) h1
        injection h2 with h2; injection h2 with _ h2; subst h2
        simp only [Lv.step] at *
        omega
      · have h9 := ih .comp _ _ _ hk h
        simp only [Lv.step] at *
        exact h9
    | comp =>
      rw [rd] at h
      obtain ⟨e1, k1, h1, h2⟩ := andThen_ok h
      obtain ⟨a1, a2⟩ := ih _ _ _ _ hk h1
      split at h2
      · rename_i hw
        have hk1 : k1 + 1 < xs.length := lxEnds_next he a2 (by rw [hw.1]; decide)
        obtain ⟨e2, k2, h3, h4⟩ := andThen_ok h2
        obtain ⟨b1, b2⟩ := ih _ _ _ _ hk1 h3
        injection h4 with h4; injection h4 with _ h4; subst h4
        simp only [Lv.step] at *
        omega
      · injection h2 with h2; injection h2 with _ h2; subst h2
        exact ⟨a1, a2⟩
    | sum =>
      rw [rd] at h
      obtain ⟨e1, k1, h1, h2⟩ := andThen_ok h
      obtain ⟨a1, a2⟩ := ih _ _ _ _ hk h1
      obtain ⟨b1, b2⟩ := ih _ _ _ _ a2 h2
      simp only [Lv.step] at *
      omega
    | addL e0 =>
      rw [rd] at h
      split at h
      · rename_i hw
        obtain ⟨e1, k1, h1, h2⟩ := andThen_ok h
        obtain ⟨a1, a2⟩ := ih _ _ _ _ (isMk_in he hk hw) h1
        obtain ⟨b1, b2⟩ := ih _ _ _ _ a2 h2
        simp only [Lv.step] at *
        omega
      · split at h
        · rename_i _ hw
          obtain ⟨e1, k1, h1, h2⟩ := andThen_ok h
          obtain ⟨a1, a2⟩ := ih _ _ _ _ (isMk_in he hk hw) h1
          obtain ⟨b1, b2⟩ := ih _ _ _ _ a2 h2
          simp only [Lv.step] at *
          omega
        · injection h with h; injection h with h1 h2; subst h2; exact ⟨Nat.le_refl _, hk⟩
    | term =>
      rw [rd] at h
      obtain ⟨e1, k1, h1, h2⟩ := andThen_ok h
      obtain ⟨a1, a2⟩ := ih _ _ _ _ hk h1
      obtain ⟨b1, b2⟩ := ih _ _ _ _ a2 h2
      simp only [Lv.step] at *
      omega
    | mulL e0 =>
      rw [rd] at h
      split at h
      · rename_i hw
        obtain ⟨e1, k1, h1, h2⟩ := andThen_ok h
        obtain ⟨a1, a2⟩ := ih _ _ _ _ (isMk_in he hk hw) h1
        obtain ⟨b1, b2⟩ := ih _ _ _ _ a2 h2
        simp only [Lv.step] at *
        omega
      · injection h with h; injection h with h1 h2; subst h2; exact ⟨Nat.le_refl _, hk⟩
    | fact =>
      rw [rd] at h
      split at h
      · rename_i hw
        injection h with h; injection h with _ h; subst h
        exact ⟨Nat.le_refl _, lxEnds_next he hk (by rw [hw]; decide)⟩
      · split at h
        · rename_i _ hw
          split at h
          · injection h with h; injection h with _ h; subst h
            exact ⟨Nat.le_refl _, lxEnds_next he hk (by rw [hw]; decide)⟩
          · injection h with h; cases h
        · split at h
          · rename_i _ _ hw
            have hk1 := isMk_in he hk hw
            split at h
            · rename_i hn
              injection h with h; injection h with _ h; subst h
              have := lxEnds_next he hk1 (by rw [hn.1]; decide)
              exact ⟨by simp only [Lv.step]; omega, this⟩
            · injection h with h; cases h
          · split at h
            · rename_i _ _ _ hw
              obtain ⟨e1, k1, h1, h2⟩ := andThen_ok h
              obtain ⟨a1, a2⟩ := ih _ _ _ _ (isMk_in he hk hw) h1
              split at h2
              · rename_i hw2
                injection h2 with h2; injection h2 with _ h2; subst h2
                have := isMk_in he a2 hw2
                simp only [Lv.step] at *
                omega
              · injection h2 with h2; cases h2
            · injection h with h; cases h

/-- How much fuel a level wants beyond that of the lexemes that are left. -/
def Lv.rank : Lv → Nat
  | .expr => 8
  | .conj => 7
  | .neg => 6
  | .comp => 5
  | .sum => 4
  | .term => 3
  | .fact => 2
  | _ => 2
theorem andThen_total {r : Option RR} {f : Ex → Nat → Option RR} (hr : ∃ t, r = some t) (hf : ∀ e k, r = some (.ok e k) → ∃ t, f e k = some t) : ∃ t, andThen r f = some t := by
  obtain ⟨t, rfl⟩ := hr
  cases t with
  | bad er off => exact ⟨_, rfl⟩
  | ok e k => exact hf e k rfl
theorem rd_total {xs : List Lx} (he : LxEnds xs) : ∀ (n : Nat) (lv : Lv) (k : Nat), k < xs.length → 12 * (xs.length - k) + lv.rank ≤ n → ∃ r, rd xs n lv k = some r := by
  intro n
  induction n with
  | zero => intro lv k _ h; cases lv <;> simp only [Lv.rank] at h <;> omega
  | succ n ih =>
    intro lv k hk hn
    have hin : ∀ (lv : Lv) (k : Nat) (e : Ex) (k' : Nat), k < xs.length → rd xs n lv k = some (.ok e k') → k + lv.step ≤ k' ∧ k' < xs.length := fun lv k e k' => rd_in he n lv k e k'
    cases lv with
    | expr =>
      rw [rd]
      simp only [Lv.rank] at hn
      refine andThen_total (ih _ _ hk (by simp only [Lv.rank]; omega)) (fun e k' h => ?_)
      obtain ⟨a1, a2⟩ := hin _ _ _ _ hk h
      simp only [Lv.step] at a1
      exact ih _ _ a2 (by simp only [Lv.rank]; omega)
    | orL e0 =>
      rw [rd]
      simp only [Lv.rank] at hn
      split
      · rename_i hw
        have hk1 := isWd_in he hk hw
        refine andThen_total (ih _ _ hk1 (by simp only [Lv.rank]; omega)) (fun e k' h => ?_)
        obtain ⟨a1, a2⟩ := hin _ _ _ _ hk1 h
        simp only [Lv.step] at a1
        exact ih _ _ a2 (by simp only [Lv.rank]; omega)
      · exact ⟨_, rfl⟩
    | conj =>
      rw [rd]
      simp only [Lv.rank] at hn
      refine andThen_total (ih _ _ hk (by simp only [Lv.rank]; omega)) (fun e k' h => ?_)
      obtain ⟨a1, a2⟩ := hin _ _ _ _ hk h
      simp only [Lv.step] at a1
      exact ih _ _ a2 (by simp only [Lv.rank]; omega)
    | andL e0 =>
      rw [rd]
      simp only [Lv.rank] at hn
      split
      · rename_i hw
        have hk1 := isWd_in he hk hw
        refine andThen_total (ih _ _ hk1 (by simp only [Lv.rank]; omega)) (fun e k' h => ?_)
        obtain ⟨a1, a2⟩ := hin _ _ _ _ hk1 h
        simp only [Lv.step] at a1
        exact ih _ _ a2 (by simp only [Lv.rank]; omega)
      · exact ⟨_, rfl⟩
    | neg =>
      rw [rd]
      simp only [Lv.rank] at hn
      split
      · rename_i hw
        have hk1 := isWd_in he hk hw
        exact andThen_total (ih _ _ hk1 (by simp only [Lv.rank]; omega)) (fun e k' h => ⟨_, rfl⟩)
      · exact ih _ _ hk (by simp only [Lv.rank]; omega)
    | comp =>
      rw [rd]
      simp only [Lv.rank] at hn
      refine andThen_total (ih _ _ hk (by simp only [Lv.rank]; omega)) (fun a k' h => ?_)
      obtain ⟨a1, a2⟩ := hin _ _ _ _ hk h
      simp only [Lv.step] at a1
      split
      · rename_i hw
        have hk1 : k' + 1 < xs.length := lxEnds_next he a2 (by rw [hw.1]; decide)
        exact andThen_total (ih _ _ hk1 (by simp only [Lv.rank]; omega)) (fun b k2 _ => ⟨_, rfl⟩)
      · exact ⟨_, rfl⟩
    | sum =>
      rw [rd]
      simp only [Lv.rank] at hn
      refine andThen_total (ih _ _ hk (by simp only [Lv.rank]; omega)) (fun e k' h => ?_)
      obtain ⟨a1, a2⟩ := hin _ _ _ _ hk h
      simp only [Lv.step] at a1
      exact ih _ _ a2 (by simp only [Lv.rank]; omega)
    | addL e0 =>
      rw [rd]
      simp only [Lv.rank] at hn
      split
      · rename_i hw
        have hk1 := isMk_in he hk hw
        refine andThen_total (ih _ _ hk1 (by simp only [Lv.rank]; omega)) (fun e k' h => ?_)
        obtain ⟨a1, a2⟩ := hin _ _ _ _ hk1 h
        simp only [Lv.step] at a1
        exact ih _ _ a2 (by simp only [Lv.rank]; omega)
      · split
        · rename_i _ hw
          have hk1 := isMk_in he hk hw
          refine andThen_total (ih _ _ hk1 (by simp only [Lv.rank]; omega)) (fun e k' h => ?_)
          obtain ⟨a1, a2⟩ := hin _ _ _ _ hk1 h
          simp only [Lv.step] at a1
          exact ih _ _ a2 (by simp only [Lv.rank]; omega)
        · exact ⟨_, rfl⟩
    | term =>
      rw [rd]
      simp only [Lv.rank] at hn
      refine andThen_total (ih _ _ hk (by simp only [Lv.rank]; omega)) (fun e k' h => ?_)
      obtain ⟨a1, a2⟩ := hin _ _ _ _ hk h
      simp only [Lv.step] at a1
      exact ih _ _ a2 (by simp only [Lv.rank]; omega)
    | mulL e0 =>
      rw [rd]
      simp only [Lv.rank] at hn
      split
      · rename_i hw
        have hk1 := isMk_in he hk hw
        refine andThen_total (ih _ _ hk1 (by simp only [Lv.rank]; omega)) (fun e k' h => ?_)
        obtain ⟨a1, a2⟩ := hin _ _ _ _ hk1 h
        simp only [Lv.step] at a1
        exact ih _ _ a2 (by simp only [Lv.rank]; omega)
      · exact ⟨_, rfl⟩
    | fact =>
      rw [rd]
      simp only [Lv.rank] at hn
      split
      · exact ⟨_, rfl⟩
      · split
        · split <;> exact ⟨_, rfl⟩
        · split
          · split <;> exact ⟨_, rfl⟩
          · split
            · rename_i _ _ _ hw
              have hk1 := isMk_in he hk hw
              refine andThen_total (ih _ _ hk1 (by simp only [Lv.rank]; omega)) (fun e k' h => ?_)
              split <;> exact ⟨_, rfl⟩
            · exact ⟨_, rfl⟩

end Saw

namespace Saw

/-! ### The lexemes of a text -/
def signT (op : Int) : Lx := if op = 10 ∨ op = 11 then nmT (signP op) else mkT (signP op)
def withinT (p : Int × List Lx) (least : Int) : List Lx := if p.1 < least then mkT [40] :: (p.2 ++ [mkT [41]]) else p.2
def rawT (op n : Int) (name : List UInt8) (l : List (Int × List Lx)) : List Lx :=
  if op = 1 then (if n < 0 then [mkT [45], nuT (-n)] else [nuT n]) else if op = 2 then [nmT name] else if op = 9 then nmT notW :: withinT (l.getD 0 (0, [])) 3
  else withinT (l.getD 0 (0, [])) (firstP op) ++ signT op :: withinT (l.getD 1 (0, [])) (secondP op)
def tks : Fo → List (Int × List Lx)
  | .nil => []
  | .cons o n m k r => (ownP o, rawT o n m (tks k)) :: tks r
def tkE (x : Ex) : Int × List Lx := (ownP x.op, rawT x.op x.n x.name (tks x.kids))
theorem tks_map : ∀ f : Fo, tks f = f.toList.map tkE
  | .nil => rfl
  | .cons o n m k r => by rw [tks, Fo.toList, List.map_cons, tks_map r]; rfl

/-- What a formed node is. -/
theorem formed_cases {x : Ex} (h : formedE x = true) :
    (x.op = 1 ∧ x.name = [] ∧ x.kids = .nil ∧ -1099511627776 ≤ x.n ∧ x.n ≤ 1099511627776) ∨ (x.op = 2 ∧ x.n = 0 ∧ namedP x.name = true ∧ x.kids = .nil) ∨
    (∃ a, x.op = 9 ∧ x = one 9 a ∧ formedE a = true) ∨ (∃ a b, (x.op = 3 ∨ x.op = 4 ∨ x.op = 5 ∨ x.op = 6 ∨ x.op = 7 ∨ x.op = 8 ∨ x.op = 10 ∨ x.op = 11) ∧ x = two x.op a b ∧ formedE a = true ∧ formedE b = true) := by
  obtain ⟨op, n, name, kids⟩ := x
  rw [formedE, headP] at h
  simp only [Bool.and_eq_true, decide_eq_true_eq, Bool.or_eq_true] at h
  obtain ⟨⟨⟨⟨⟨⟨⟨h1, h2⟩, h3⟩, h4⟩, h5⟩, h6⟩, h7⟩, h8⟩ := h
  simp only at *
  by_cases o1 : op = 1
  · subst o1
    rw [if_neg (by decide)] at h7
    rw [takesP, if_pos (.inl rfl)] at h3
    refine .inl ⟨rfl, by simpa using h7, ?_, h4, h5⟩
    cases kids with
    | nil => rfl
    | cons _ _ _ _ _ => simp [Fo.toList] at h3
  · have hn : n = 0 := by rcases h6 with h6 | h6; exact h6; exact absurd h6 o1
    subst hn
    by_cases o2 : op = 2
    · subst o2
      rw [if_pos rfl] at h7
      rw [takesP, if_pos (.inr rfl)] at h3
      refine .inr (.inl ⟨rfl, rfl, h7, ?_⟩)
      cases kids with
      | nil => rfl
      | cons _ _ _ _ _ => simp [Fo.toList] at h3
    · rw [if_neg o2] at h7
      have hnm : name = [] := by simpa using h7
      subst hnm
      by_cases o9 : op = 9
      · subst o9
        rw [takesP, if_neg (by decide), if_pos rfl] at h3
        cases kids with
        | nil => simp [Fo.toList] at h3
        | cons o n m k r =>
          cases r with
          | cons _ _ _ _ _ => simp [Fo.toList] at h3
          | nil =>
            rw [formedF, Bool.and_eq_true] at h8
            exact .inr (.inr (.inl ⟨⟨o, n, m, k⟩, rfl, rfl, h8.1⟩))
      · rw [takesP, if_neg (by omega), if_neg o9] at h3
        cases kids with
        | nil => simp [Fo.toList] at h3
        | cons o n m k r =>
          cases r with
          | nil => simp [Fo.toList] at h3
          | cons o' n' m' k' r' =>
            cases r' with
            | cons _ _ _ _ _ => simp [Fo.toList] at h3
            | nil =>
              simp only [formedF, Bool.and_eq_true, and_true] at h8
              exact .inr (.inr (.inr ⟨⟨o, n, m, k⟩, ⟨o', n', m', k'⟩, by omega, rfl, by rw [formedE, Bool.and_eq_true]; exact h8.1, by rw [formedE, Bool.and_eq_true]; exact h8.2⟩))
theorem one_op (op : Int) (a : Ex) : (one op a).op = op ∧ (one op a).kids.toList = [a] := ⟨rfl, rfl⟩
theorem two_op (op : Int) (a b : Ex) : (two op a b).op = op ∧ (two op a b).kids.toList = [a, b] := ⟨rfl, rfl⟩
/-- Induction over what is formed. -/
theorem formed_ind {P : Ex → Prop} (h1 : ∀ x : Ex, x.op = 1 → x.name = [] → x.kids = .nil → -1099511627776 ≤ x.n → x.n ≤ 1099511627776 → P x)
    (h2 : ∀ x : Ex, x.op = 2 → x.n = 0 → namedP x.name = true → x.kids = .nil → P x) (h9 : ∀ a, formedE a = true → P a → P (one 9 a))
    (hb : ∀ op a b, (op = 3 ∨ op = 4 ∨ op = 5 ∨ op = 6 ∨ op = 7 ∨ op = 8 ∨ op = 10 ∨ op = 11) → formedE a = true → formedE b = true → P a → P b → P (two op a b)) :
    ∀ (n : Nat) (x : Ex), x.size ≤ n → formedE x = true → P x := by
  intro n
  induction n with
  | zero => intro x hx; simp only [Ex.size] at hx; omega
  | succ n ih =>
    intro x hx hf
    rcases formed_cases hf with ⟨a1, a2, a3, a4, a5⟩ | ⟨a1, a2, a3, a4⟩ | ⟨a, a1, a2, a3⟩ | ⟨a, b, a1, a2, a3, a4⟩
    · exact h1 x a1 a2 a3 a4 a5
    · exact h2 x a1 a2 a3 a4
    · rw [a2] at hx ⊢
      have hs : a.size ≤ n := by simp only [Ex.size, one, Fo.size] at hx ⊢; omega
      exact h9 a a3 (ih a hs a3)
    · rw [a2] at hx ⊢
      have hs : a.size ≤ n ∧ b.size ≤ n := by simp only [Ex.size, two, Fo.size] at hx ⊢; omega
      exact hb _ a b a1 a3 a4 (ih a hs.1 a3) (ih b hs.2 a4)
theorem formed_induct {P : Ex → Prop} (h1 : ∀ x : Ex, x.op = 1 → x.name = [] → x.kids = .nil → -1099511627776 ≤ x.n → x.n ≤ 1099511627776 → P x)
    (h2 : ∀ x : Ex, x.op = 2 → x.n = 0 → namedP x.name = true → x.kids = .nil → P x) (h9 : ∀ a, formedE a = true → P a → P (one 9 a))
    (hb : ∀ op a b, (op = 3 ∨ op = 4 ∨ op = 5 ∨ op = 6 ∨ op = 7 ∨ op = 8 ∨ op = 10 ∨ op = 11) → formedE a = true → formedE b = true → P a → P b → P (two op a b)) (x : Ex) (hf : formedE x = true) : P x :=
  formed_ind h1 h2 h9 hb x.size x (Nat.le_refl _) hf

theorem tkE_num {x : Ex} (h : x.op = 1) : tkE x = (7, if x.n < 0 then [mkT [45], nuT (-x.n)] else [nuT x.n]) := by
  rw [tkE, h, rawT, if_pos rfl]; rfl
theorem tkE_name {x : Ex} (h : x.op = 2) : tkE x = (7, [nmT x.name]) := by
  rw [tkE, h, rawT, if_neg (by decide), if_pos rfl]; rfl
theorem tkE_not (a : Ex) : tkE (one 9 a) = (3, nmT notW :: withinT (tkE a) 3) := rfl
theorem tkE_two {op : Int} (ho : op = 3 ∨ op = 4 ∨ op = 5 ∨ op = 6 ∨ op = 7 ∨ op = 8 ∨ op = 10 ∨ op = 11) (a b : Ex) : tkE (two op a b) = (ownP op, withinT (tkE a) (firstP op) ++ signT op :: withinT (tkE b) (secondP op)) := by
  rw [tkE, (two_op op a b).1, rawT, if_neg (by omega), if_neg (by omega), if_neg (by omega), tks_map, (two_op op a b).2]
  rfl
theorem txE_num {x : Ex} (h : x.op = 1) : txE x = (7, Go.Lib.itoa x.n) := by rw [txE, h, rawP, if_pos rfl]; rfl
theorem txE_name {x : Ex} (h : x.op = 2) : txE x = (7, x.name) := by rw [txE, h, rawP, if_neg (by decide), if_pos rfl]; rfl
theorem txE_not (a : Ex) : txE (one 9 a) = (3, notW ++ [32] ++ within (txE a) 3) := rfl
theorem txE_two {op : Int} (ho : op = 3 ∨ op = 4 ∨ op = 5 ∨ op = 6 ∨ op = 7 ∨ op = 8 ∨ op = 10 ∨ op = 11) (a b : Ex) : txE (two op a b) = (ownP op, within (txE a) (firstP op) ++ [32] ++ signP op ++ [32] ++ within (txE b) (secondP op)) := by
  rw [txE, (two_op op a b).1, rawP, if_neg (by omega), if_neg (by omega), if_neg (by omega), txs_map, (two_op op a b).2]
  rfl

/-! ### The text's lexemes -/
def LexE (x : Ex) : Prop := ∀ l ts, stops l = true → Lexes l ts → Lexes ((txE x).2 ++ l) ((tkE x).2 ++ ts)
theorem named_word {t : List UInt8} (h : namedP t = true) : isWord t = true := by
  rw [namedP, Bool.and_eq_true] at h
  exact name_word h.1
theorem within_lex {x : Ex} (h : LexE x) (least : Int) {l : List UInt8} {ts : List Lx} (hs : stops l = true) (hl : Lexes l ts) : Lexes (within (txE x) least ++ l) (withinT (tkE x) least ++ ts) := by
  have he : (txE x).1 = (tkE x).1 := rfl
  rw [within, withinT, he]
  split
  · rw [List.append_assoc, List.append_assoc]
    show Lexes ([40] ++ ((txE x).2 ++ ([41] ++ l))) (mkT [40] :: ((tkE x).2 ++ [mkT [41]] ++ ts))
    rw [List.append_assoc]
    refine Lexes.mark (by decide) (fun _ => mark_alone 40 _ (by decide)) (h _ _ rfl ?_)
    exact Lexes.mark (by decide) (fun _ => mark_alone 41 _ (by decide)) hl
  · exact h l ts hs hl
theorem sign_lex {op : Int} (ho : op = 3 ∨ op = 4 ∨ op = 5 ∨ op = 6 ∨ op = 7 ∨ op = 8 ∨ op = 10 ∨ op = 11) {l : List UInt8} {ts : List Lx} (hl : Lexes l ts) : Lexes (signP op ++ ([32] ++ l)) (signT op :: ts) := by
  have hb : Lexes ([32] ++ l) ts := Lexes.blank (.inl rfl) hl
  rcases ho with rfl | rfl | rfl | rfl | rfl | rfl | rfl | rfl
  · exact Lexes.mark (by decide) (fun _ => by rfl) hb
  · exact Lexes.mark (by decide) (fun _ => by rfl) hb
  · exact Lexes.mark (by decide) (fun _ => by rfl) hb
  · exact Lexes.mark (by decide) (fun _ => by rfl) hb
  · exact Lexes.mark (by decide) (fun _ => by rfl) hb
  · exact Lexes.mark (by decide) (fun h => by cases h) hb
  · exact Lexes.word (by rfl) rfl hb
  · exact Lexes.word (by rfl) rfl hb
theorem lexE_of {x : Ex} (hf : formedE x = true) : LexE x := by
  refine formed_induct (P := LexE) ?_ ?_ ?_ ?_ x hf
  · intro x h1 _ _ h4 h5 l ts hs hl
    rw [txE_num h1, tkE_num h1]
    simp only
    split
    · rename_i hn
      rw [Go.Lib.itoa, if_pos hn, show x.n.natAbs = (-x.n).toNat by omega]
      show Lexes ([45] ++ (Go.Lib.decDigits (-x.n).toNat ++ l)) (mkT [45] :: nuT (-x.n) :: ts)
      refine Lexes.mark (by decide) (fun _ => mark_alone 45 _ (by decide)) ?_
      have h9 := Lexes.num (n := -x.n) (by omega) (by omega) (stops_dig hs) hl
      rw [Go.Lib.itoa, if_neg (by omega)] at h9
      exact h9
    · rename_i hn
      exact Lexes.num (by omega) h5 (stops_dig hs) hl
  · intro x h1 _ h3 _ l ts hs hl
    rw [txE_name h1, tkE_name h1]
    exact Lexes.word (named_word h3) hs hl
  · intro a _ ih l ts hs hl
    rw [txE_not, tkE_not]
    simp only [List.append_assoc, List.cons_append]
    refine Lexes.word (by rfl) rfl (Lexes.blank (.inl rfl) (within_lex ih 3 hs hl))
  · intro op a b ho _ _ iha ihb l ts hs hl
    rw [txE_two ho, tkE_two ho]
    simp only [List.append_assoc, List.cons_append]
    exact within_lex iha _ rfl (Lexes.blank (.inl rfl) (sign_lex ho (within_lex ihb _ hs hl)))

end Saw

namespace Saw

/-- What a level reads, whatever the fuel. -/
def Rds (xs : List Lx) (lv : Lv) (k : Nat) (r : RR) : Prop := ∃ n, rd xs n lv k = some r
theorem Rds.bind {xs : List Lx} {lv lv' lv0 : Lv} {k k1 k' : Nat} {e : Ex} {r : RR} {f : Ex → Lv} (h0 : ∀ n, rd xs (n + 1) lv0 k = andThen (rd xs n lv k1) fun e k' => rd xs n (f e) k') (h1 : Rds xs lv k1 (.ok e k')) (hf : f e = lv') (h2 : Rds xs lv' k' r) : Rds xs lv0 k r := by
  obtain ⟨n, h1⟩ := h1
  obtain ⟨m, h2⟩ := h2
  subst hf
  refine ⟨max n m + 1, ?_⟩
  rw [h0, rd_mono h1 (Nat.le_max_left n m)]
  exact rd_mono h2 (Nat.le_max_right n m)
section
variable {xs : List Lx} {k k' : Nat} {e e' : Ex} {r : RR}
theorem Rds.expr (h1 : Rds xs .conj k (.ok e k')) (h2 : Rds xs (.orL e) k' r) : Rds xs .expr k r := Rds.bind (fun _ => rfl) h1 rfl h2
theorem Rds.conj (h1 : Rds xs .neg k (.ok e k')) (h2 : Rds xs (.andL e) k' r) : Rds xs .conj k r := Rds.bind (fun _ => rfl) h1 rfl h2
theorem Rds.sum (h1 : Rds xs .term k (.ok e k')) (h2 : Rds xs (.addL e) k' r) : Rds xs .sum k r := Rds.bind (fun _ => rfl) h1 rfl h2
theorem Rds.term (h1 : Rds xs .fact k (.ok e k')) (h2 : Rds xs (.mulL e) k' r) : Rds xs .term k r := Rds.bind (fun _ => rfl) h1 rfl h2
theorem Rds.orStop (h : isWd xs k orW = false) : Rds xs (.orL e) k (.ok e k) := ⟨1, by rw [rd, if_neg (by rw [h]; decide)]⟩
theorem Rds.andStop (h : isWd xs k andW = false) : Rds xs (.andL e) k (.ok e k) := ⟨1, by rw [rd, if_neg (by rw [h]; decide)]⟩
theorem Rds.addStop (h : isMk xs k [43] = false) (h' : isMk xs k [45] = false) : Rds xs (.addL e) k (.ok e k) := ⟨1, by rw [rd, if_neg (by rw [h]; decide), if_neg (by rw [h']; decide)]⟩
theorem Rds.mulStop (h : isMk xs k [42] = false) : Rds xs (.mulL e) k (.ok e k) := ⟨1, by rw [rd, if_neg (by rw [h]; decide)]⟩
theorem Rds.orMore (h : isWd xs k orW = true) (h1 : Rds xs .conj (k + 1) (.ok e' k')) (h2 : Rds xs (.orL (two 11 e e')) k' r) : Rds xs (.orL e) k r := Rds.bind (fun n => by rw [rd, if_pos h]) h1 rfl h2
theorem Rds.andMore (h : isWd xs k andW = true) (h1 : Rds xs .neg (k + 1) (.ok e' k')) (h2 : Rds xs (.andL (two 10 e e')) k' r) : Rds xs (.andL e) k r := Rds.bind (fun n => by rw [rd, if_pos h]) h1 rfl h2
theorem Rds.plus (h : isMk xs k [43] = true) (h1 : Rds xs .term (k + 1) (.ok e' k')) (h2 : Rds xs (.addL (two 3 e e')) k' r) : Rds xs (.addL e) k r := Rds.bind (fun n => by rw [rd, if_pos h]) h1 rfl h2
theorem Rds.minus (h0 : isMk xs k [43] = false) (h : isMk xs k [45] = true) (h1 : Rds xs .term (k + 1) (.ok e' k')) (h2 : Rds xs (.addL (two 4 e e')) k' r) : Rds xs (.addL e) k r := Rds.bind (fun n => by rw [rd, if_neg (by rw [h0]; decide), if_pos h]) h1 rfl h2
theorem Rds.times (h : isMk xs k [42] = true) (h1 : Rds xs .fact (k + 1) (.ok e' k')) (h2 : Rds xs (.mulL (two 5 e e')) k' r) : Rds xs (.mulL e) k r := Rds.bind (fun n => by rw [rd, if_pos h]) h1 rfl h2
theorem Rds.negNot (h : isWd xs k notW = true) (h1 : Rds xs .neg (k + 1) (.ok e k')) : Rds xs .neg k (.ok (one 9 e) k') := by
  obtain ⟨n, h1⟩ := h1
  exact ⟨n + 1, by rw [rd, if_pos h, h1]; rfl⟩
theorem Rds.neg (h : isWd xs k notW = false) (h1 : Rds xs .comp k r) : Rds xs .neg k r := by
  obtain ⟨n, h1⟩ := h1
  exact ⟨n + 1, by rw [rd, if_neg (by rw [h]; decide), h1]⟩
theorem Rds.compOne (h1 : Rds xs .sum k (.ok e k')) (h : ¬ ((lxAt xs k').kind = 3 ∧ isCmp (lxAt xs k').text = true)) : Rds xs .comp k (.ok e k') := by
  obtain ⟨n, h1⟩ := h1
  refine ⟨n + 1, ?_⟩
  rw [rd, h1]
  show (if _ then _ else _) = _
  rw [if_neg h]
theorem Rds.compTwo {k2 : Nat} {b : Ex} (h1 : Rds xs .sum k (.ok e k')) (h : (lxAt xs k').kind = 3 ∧ isCmp (lxAt xs k').text = true) (h2 : Rds xs .sum (k' + 1) (.ok b k2)) : Rds xs .comp k (.ok (cmpE (lxAt xs k').text e b) k2) := by
  obtain ⟨n, h1⟩ := h1
  obtain ⟨m, h2⟩ := h2
  refine ⟨max n m + 1, ?_⟩
  rw [rd, rd_mono h1 (Nat.le_max_left n m)]
  show (if _ then _ else _) = _
  rw [if_pos h, rd_mono h2 (Nat.le_max_right n m)]
  rfl
theorem Rds.paren (h1 : isMk xs k [40] = true) (h : Rds xs .expr (k + 1) (.ok e k')) (h2 : isMk xs k' [41] = true) : Rds xs .fact k (.ok e (k' + 1)) := by
  obtain ⟨n, h⟩ := h
  refine ⟨n + 1, ?_⟩
  have hk := lxIs_kind' h1
  have ht : (lxAt xs k).text = [40] := by rw [isMk, lxIs, Bool.and_eq_true] at h1; simpa using h1.2
  rw [rd, if_neg (by rw [hk]; decide), if_neg (by rw [hk]; decide), if_neg (by simp [isMk, lxIs, hk, ht]), if_pos h1, h]
  show (if _ then _ else _) = _
  rw [if_pos h2]
end

/-! ### What stands behind -/
def bMul (t : Lx) : Bool := t.kind == 3 && t.text == [42]
def bAdd (t : Lx) : Bool := t.kind == 3 && (t.text == [43] || t.text == [45])
def bCmp (t : Lx) : Bool := t.kind == 3 && isCmp t.text
def bAnd (t : Lx) : Bool := t.kind == 1 && t.text == andW
/-- The lexeme behind lets a sum, a comparison, an expression end. -/
def end5 (t : Lx) : Prop := bMul t = false
def end4 (t : Lx) : Prop := bMul t = false ∧ bAdd t = false ∧ bCmp t = false
def end1 (t : Lx) : Prop := end4 t ∧ bAnd t = false
section
variable {xs : List Lx} {k : Nat} {t : Lx} {ts : List Lx}
theorem at_kt (h : AtK xs k (t :: ts)) : (lxAt xs k).kind = t.kind ∧ (lxAt xs k).text = t.text ∧ (lxAt xs k).num = t.num := by
  rw [← h.step.1]
  exact ⟨rfl, rfl, rfl⟩
theorem isMk_at (h : AtK xs k (t :: ts)) (w : List UInt8) : isMk xs k w = (t.kind == 3 && t.text == w) := by
  obtain ⟨h1, h2, _⟩ := at_kt h
  rw [isMk, lxIs, h1, h2]
theorem isWd_at (h : AtK xs k (t :: ts)) (w : List UInt8) : isWd xs k w = (t.kind == 1 && t.text == w) := by
  obtain ⟨h1, h2, _⟩ := at_kt h
  rw [isWd, lxIs, h1, h2]
theorem end_mul (h : AtK xs k (t :: ts)) (he : end5 t) : isMk xs k [42] = false := by rw [isMk_at h]; exact he
theorem end_add (h : AtK xs k (t :: ts)) (he : bAdd t = false) : isMk xs k [43] = false ∧ isMk xs k [45] = false := by
  rw [isMk_at h, isMk_at h]
  rw [bAdd] at he
  cases h3 : (t.kind == 3) with
  | false => simp
  | true =>
    rw [h3, Bool.true_and, Bool.or_eq_false_iff] at he
    rw [Bool.true_and, Bool.true_and]
    exact he
theorem end_cmp (h : AtK xs k (t :: ts)) (he : bCmp t = false) : ¬ ((lxAt xs k).kind = 3 ∧ isCmp (lxAt xs k).text = true) := by
  obtain ⟨h1, h2, _⟩ := at_kt h
  rw [h1, h2]
  rintro ⟨h3, h4⟩
  rw [bCmp, h3, h4] at he
  cases he
theorem end_and (h : AtK xs k (t :: ts)) (he : bAnd t = false) : isWd xs k andW = false := by rw [isWd_at h]; exact he
end

/-- How an expression within a strength is read, at each level. -/
structure CL (x : Ex) : Prop where
  c7 : ∀ xs k ts, AtK xs k (withinT (tkE x) 7 ++ ts) → Rds xs .fact k (.ok x (k + (withinT (tkE x) 7).length))
  c6 : ∀ xs k ts r, AtK xs k (withinT (tkE x) 6 ++ ts) → Rds xs (.mulL x) (k + (withinT (tkE x) 6).length) r → Rds xs .term k r
  c5 : ∀ xs k t ts r, AtK xs k (withinT (tkE x) 5 ++ t :: ts) → end5 t → Rds xs (.addL x) (k + (withinT (tkE x) 5).length) r → Rds xs .sum k r
  c4 : ∀ xs k t ts, AtK xs k (withinT (tkE x) 4 ++ t :: ts) → end4 t → Rds xs .comp k (.ok x (k + (withinT (tkE x) 4).length))
  c3 : ∀ xs k t ts, AtK xs k (withinT (tkE x) 3 ++ t :: ts) → end4 t → Rds xs .neg k (.ok x (k + (withinT (tkE x) 3).length))
  c2 : ∀ xs k t ts r, AtK xs k (withinT (tkE x) 2 ++ t :: ts) → end4 t → Rds xs (.andL x) (k + (withinT (tkE x) 2).length) r → Rds xs .conj k r
  c1 : ∀ xs k t ts r, AtK xs k ((tkE x).2 ++ t :: ts) → end1 t → Rds xs (.orL x) (k + (tkE x).2.length) r → Rds xs .expr k r
  /-- The first lexeme is not 'not', if it binds as strongly as a comparison. -/
  hd : ∀ least, 4 ≤ least ∨ 4 ≤ (tkE x).1 → ∃ t r, withinT (tkE x) least = t :: r ∧ (t.kind == 1 && t.text == notW) = false

/-! ### Lifts: from a level to the weaker ones -/
section
variable {x : Ex}
def C7 (x : Ex) (T : List Lx) : Prop := ∀ xs k ts, AtK xs k (T ++ ts) → Rds xs .fact k (.ok x (k + T.length))
def C6 (x : Ex) (T : List Lx) : Prop := ∀ xs k ts r, AtK xs k (T ++ ts) → Rds xs (.mulL x) (k + T.length) r → Rds xs .term k r
def C5 (x : Ex) (T : List Lx) : Prop := ∀ xs k t ts r, AtK xs k (T ++ t :: ts) → end5 t → Rds xs (.addL x) (k + T.length) r → Rds xs .sum k r
def C4 (x : Ex) (T : List Lx) : Prop := ∀ xs k t ts, AtK xs k (T ++ t :: ts) → end4 t → Rds xs .comp k (.ok x (k + T.length))
def C3 (x : Ex) (T : List Lx) : Prop := ∀ xs k t ts, AtK xs k (T ++ t :: ts) → end4 t → Rds xs .neg k (.ok x (k + T.length))
def C2 (x : Ex) (T : List Lx) : Prop := ∀ xs k t ts r, AtK xs k (T ++ t :: ts) → end4 t → Rds xs (.andL x) (k + T.length) r → Rds xs .conj k r
def C1 (x : Ex) (T : List Lx) : Prop := ∀ xs k t ts r, AtK xs k (T ++ t :: ts) → end1 t → Rds xs (.orL x) (k + T.length) r → Rds xs .expr k r
def HD (T : List Lx) : Prop := ∃ t r, T = t :: r ∧ (t.kind == 1 && t.text == notW) = false
theorem lift6 {T : List Lx} (h : C7 x T) : C6 x T := fun xs k ts _ ha hr => Rds.term (h xs k ts ha) hr
theorem lift5 {T : List Lx} (h : C6 x T) : C5 x T := fun xs k t ts _ ha he hr => Rds.sum (h xs k (t :: ts) _ ha (Rds.mulStop (end_mul ha.skip he))) hr
theorem lift4 {T : List Lx} (h : C5 x T) : C4 x T := fun xs k t ts ha he => by
  have hs := ha.skip
  have hadd := end_add hs he.2.1
  exact Rds.compOne (h xs k t ts _ ha he.1 (Rds.addStop hadd.1 hadd.2)) (end_cmp hs he.2.2)
theorem lift3 {T : List Lx} (h : C4 x T) (hd : HD T) : C3 x T := fun xs k t ts ha he => by
  obtain ⟨t0, r0, rfl, h0⟩ := hd
  refine Rds.neg ?_ (h xs k t ts ha he)
  rw [isWd_at (t := t0) (ts := r0 ++ t :: ts) ha]
  exact h0
theorem lift2 {T : List Lx} (h : C3 x T) : C2 x T := fun xs k t ts _ ha he hr => Rds.conj (h xs k t ts ha he) hr
theorem lift1 {T : List Lx} (h : C2 x T) : C1 x T := fun xs k t ts _ ha he hr => Rds.expr (h xs k t ts _ ha he.1 (Rds.andStop (end_and ha.skip he.2))) hr
theorem paren7 {T : List Lx} (h : C1 x T) : C7 x (mkT [40] :: (T ++ [mkT [41]])) := fun xs k ts ha => by
  have h1 : isMk xs k [40] = true := by rw [isMk_at (t := mkT [40]) (ts := T ++ [mkT [41]] ++ ts) (by simpa using ha)]; rfl
  have ha1 : AtK xs (k + 1) (T ++ mkT [41] :: ts) := by
    have := (show AtK xs k (mkT [40] :: (T ++ mkT [41] :: ts)) by simpa using ha).step.2.2
    exact this
  have hs := ha1.skip
  have h2 : isMk xs (k + 1 + T.length) [41] = true := by rw [isMk_at hs]; rfl
  have h3 := h xs (k + 1) (mkT [41]) ts (.ok x (k + 1 + T.length)) ha1 ⟨⟨rfl, rfl, rfl⟩, rfl⟩ (Rds.orStop (by rw [isWd_at hs]; rfl))
  have h4 := Rds.paren h1 h3 h2
  have hl : k + (mkT [40] :: (T ++ [mkT [41]])).length = k + 1 + T.length + 1 := by simp only [List.length_cons, List.length_append, List.length_nil]; omega
  rw [hl]
  exact h4
theorem hd_paren (T : List Lx) : HD (mkT [40] :: (T ++ [mkT [41]])) := ⟨_, _, rfl, rfl⟩
end
theorem within_ge {p : Int × List Lx} {least : Int} (h : least ≤ p.1) : withinT p least = p.2 := by rw [withinT, if_neg (by omega)]
theorem within_lt {p : Int × List Lx} {least : Int} (h : p.1 < least) : withinT p least = mkT [40] :: (p.2 ++ [mkT [41]]) := by rw [withinT, if_pos h]
/-- All levels, out of the own one's. -/
theorem cl_of {x : Ex} (h1 : C1 x (tkE x).2) (h2 : 2 ≤ (tkE x).1 → C2 x (tkE x).2) (h3 : 3 ≤ (tkE x).1 → C3 x (tkE x).2) (h4 : 4 ≤ (tkE x).1 → C4 x (tkE x).2 ∧ HD (tkE x).2) (h5 : 5 ≤ (tkE x).1 → C5 x (tkE x).2)
    (h6 : 6 ≤ (tkE x).1 → C6 x (tkE x).2) (h7 : 7 ≤ (tkE x).1 → C7 x (tkE x).2) : CL x := by
  have p7 := paren7 h1
  have p6 := lift6 p7
  have p5 := lift5 p6
  have p4 := lift4 p5
  have p3 := lift3 p4 (hd_paren _)
  have p2 := lift2 p3
  refine ⟨?_, ?_, ?_, ?_, ?_, ?_, h1, fun least hl => ?_⟩
  · by_cases h : 7 ≤ (tkE x).1
    · rw [within_ge h]; exact h7 h
    · rw [within_lt (by omega)]; exact p7
  · by_cases h : 6 ≤ (tkE x).1
    · rw [within_ge h]; exact h6 h
    · rw [within_lt (by omega)]; exact p6
  · by_cases h : 5 ≤ (tkE x).1
    · rw [within_ge h]; exact h5 h
    · rw [within_lt (by omega)]; exact p5
  · by_cases h : 4 ≤ (tkE x).1
    · rw [within_ge h]; exact (h4 h).1
    · rw [within_lt (by omega)]; exact p4
  · by_cases h : 3 ≤ (tkE x).1
    · rw [within_ge h]; exact h3 h
    · rw [within_lt (by omega)]; exact p3
  · by_cases h : 2 ≤ (tkE x).1
    · rw [within_ge h]; exact h2 h
    · rw [within_lt (by omega)]; exact p2
  · by_cases h : least ≤ (tkE x).1
    · rw [within_ge h]
      exact (h4 (by omega)).2
    · rw [within_lt (by omega)]; exact hd_paren _

/-! ### Each operator -/
theorem own_sign {op : Int} (ho : op = 3 ∨ op = 4 ∨ op = 5 ∨ op = 6 ∨ op = 7 ∨ op = 8 ∨ op = 10 ∨ op = 11) :
    (op = 3 ∧ ownP op = 5 ∧ firstP op = 5 ∧ secondP op = 6 ∧ signT op = mkT [43]) ∨ (op = 4 ∧ ownP op = 5 ∧ firstP op = 5 ∧ secondP op = 6 ∧ signT op = mkT [45]) ∨ (op = 5 ∧ ownP op = 6 ∧ firstP op = 6 ∧ secondP op = 7 ∧ signT op = mkT [42]) ∨
    ((op = 6 ∨ op = 7 ∨ op = 8) ∧ ownP op = 4 ∧ firstP op = 5 ∧ secondP op = 5 ∧ signT op = mkT (signP op) ∧ isCmp (signP op) = true ∧ ∀ a b, cmpE (signP op) a b = two op a b) ∨
    (op = 10 ∧ ownP op = 2 ∧ firstP op = 2 ∧ secondP op = 3 ∧ signT op = nmT andW) ∨ (op = 11 ∧ ownP op = 1 ∧ firstP op = 1 ∧ secondP op = 2 ∧ signT op = nmT orW) := by
  rcases ho with rfl | rfl | rfl | rfl | rfl | rfl | rfl | rfl
  · exact .inl ⟨rfl, rfl, rfl, rfl, rfl⟩
  · exact .inr (.inl ⟨rfl, rfl, rfl, rfl, rfl⟩)
  · exact .inr (.inr (.inl ⟨rfl, rfl, rfl, rfl, rfl⟩))
  · exact .inr (.inr (.inr (.inl ⟨.inl rfl, rfl, rfl, rfl, rfl, rfl, fun _ _ => rfl⟩)))
  · exact .inr (.inr (.inr (.inl ⟨.inr (.inl rfl), rfl, rfl, rfl, rfl, rfl, fun _ _ => rfl⟩)))
  · exact .inr (.inr (.inr (.inl ⟨.inr (.inr rfl), rfl, rfl, rfl, rfl, rfl, fun _ _ => rfl⟩)))
  · exact .inr (.inr (.inr (.inr (.inl ⟨rfl, rfl, rfl, rfl, rfl⟩))))
  · exact .inr (.inr (.inr (.inr (.inr ⟨rfl, rfl, rfl, rfl, rfl⟩))))
theorem cl_strong {x : Ex} (_h : (tkE x).1 = 7) (h7 : C7 x (tkE x).2) (hd : HD (tkE x).2) : CL x := by
  have h6 := lift6 h7
  have h5 := lift5 h6
  have h4 := lift4 h5
  have h3 := lift3 h4 hd
  have h2 := lift2 h3
  exact cl_of (lift1 h2) (fun _ => h2) (fun _ => h3) (fun _ => ⟨h4, hd⟩) (fun _ => h5) (fun _ => h6) (fun _ => h7)
theorem len_two (A B : List Lx) (t : Lx) : (A ++ t :: B).length = A.length + 1 + B.length := by rw [List.length_append, List.length_cons]; omega
theorem at_two {xs : List Lx} {k : Nat} {A B ts : List Lx} {t : Lx} (h : AtK xs k ((A ++ t :: B) ++ ts)) : AtK xs k (A ++ t :: (B ++ ts)) ∧ AtK xs (k + A.length) (t :: (B ++ ts)) ∧ AtK xs (k + A.length + 1) (B ++ ts) := by
  have h1 : AtK xs k (A ++ t :: (B ++ ts)) := by simpa using h
  exact ⟨h1, h1.skip, h1.skip.step.2.2⟩
theorem own_pos (x : Ex) : 1 ≤ (tkE x).1 := by
  show 1 ≤ ownP x.op
  unfold ownP
  repeat (split <;> try decide)
/-- Every formed expression is read as its levels say. -/
theorem cl_all {x : Ex} (hf : formedE x = true) : CL x := by
  refine formed_induct (P := CL) ?_ ?_ ?_ ?_ x hf
  · intro x h1 h2 h3 _ _
    have hx : x = ⟨1, x.n, [], .nil⟩ := by obtain ⟨o, n, m, k⟩ := x; simp only at h1 h2 h3; subst h1 h2 h3; rfl
    refine cl_strong (by rw [tkE_num h1]) ?_ ?_
    · rw [tkE_num h1]
      intro xs k ts ha
      simp only at ha ⊢
      by_cases hn : x.n < 0
      · rw [if_pos hn] at ha ⊢
        have hk := at_kt (t := mkT [45]) (ts := nuT (-x.n) :: ts) ha
        have hk2 := at_kt (show AtK xs k (mkT [45] :: nuT (-x.n) :: ts) from ha).step.2.2
        have hm : isMk xs k [45] = true := by rw [isMk_at (t := mkT [45]) (ts := nuT (-x.n) :: ts) ha]; rfl
        refine ⟨1, ?_⟩
        rw [rd, if_neg (by rw [hk.1]; decide), if_neg (by rw [hk.1]; decide), if_pos hm, if_pos ⟨hk2.1, by rw [hk2.2.2]; show -x.n ≠ 0; omega⟩, hk2.2.2]
        show some (RR.ok ⟨1, - -x.n, [], .nil⟩ (k + 2)) = _
        rw [Int.neg_neg, ← hx]
        rfl
      · rw [if_neg hn] at ha ⊢
        have hk : (lxAt xs k).kind = 2 ∧ (lxAt xs k).text = Go.Lib.itoa x.n ∧ (lxAt xs k).num = x.n := at_kt (t := nuT x.n) (ts := ts) ha
        refine ⟨1, ?_⟩
        rw [rd, if_pos hk.1, hk.2.2]
        show some (RR.ok ⟨1, x.n, [], .nil⟩ (k + 1)) = _
        rw [← hx]
        rfl
    · rw [tkE_num h1]
      simp only
      split
      · exact ⟨_, _, rfl, rfl⟩
      · exact ⟨_, _, rfl, rfl⟩
  · intro x h1 h2 h3 h4
    have hx : x = ⟨2, 0, x.name, .nil⟩ := by obtain ⟨o, n, m, k⟩ := x; simp only at h1 h2 h4; subst h1 h2 h4; rfl
    refine cl_strong (by rw [tkE_name h1]) ?_ ?_
    · rw [tkE_name h1]
      intro xs k ts ha
      simp only at ha ⊢
      have hk : (lxAt xs k).kind = 1 ∧ (lxAt xs k).text = x.name ∧ (lxAt xs k).num = 0 := at_kt (t := nmT x.name) (ts := ts) ha
      refine ⟨1, ?_⟩
      rw [rd, if_neg (by rw [hk.1]; decide), if_pos hk.1, hk.2.1]
      show (if namedP x.name = true then some (RR.ok ⟨2, 0, x.name, .nil⟩ (k + 1)) else _) = _
      rw [if_pos h3, ← hx]
      rfl
    · rw [tkE_name h1]
      refine ⟨_, _, rfl, ?_⟩
      show ((1 : Int) == 1 && x.name == notW) = false
      rw [namedP, Bool.and_eq_true, Bool.not_eq_true'] at h3
      simp only [Bool.or_eq_false_iff] at h3
      simp [h3.2.1.1.2]
  · intro a hfa ih
    have h3 : C3 (one 9 a) (tkE (one 9 a)).2 := by
      rw [tkE_not]
      intro xs k t ts ha he
      have hw : isWd xs k notW = true := by rw [isWd_at (t := nmT notW) (ts := withinT (tkE a) 3 ++ t :: ts) ha]; rfl
      have h1 := (show AtK xs k (nmT notW :: (withinT (tkE a) 3 ++ t :: ts)) from ha).step.2.2
      have h2 := Rds.negNot hw (ih.c3 xs (k + 1) t ts h1 he)
      have hl : k + (nmT notW :: withinT (tkE a) 3).length = k + 1 + (withinT (tkE a) 3).length := by rw [List.length_cons]; omega
      simp only [hl]
      exact h2
    have h2 := lift2 h3
    have ho : (tkE (one 9 a)).1 = 3 := rfl
    exact cl_of (lift1 h2) (fun _ => h2) (fun _ => h3) (fun h => by omega) (fun h => by omega) (fun h => by omega) (fun h => by omega)
  · intro op a b ho hfa hfb iha ihb
    have hown : (tkE (two op a b)).1 = ownP op := by rw [tkE_two ho]
    rcases own_sign ho with ⟨rfl, w1, w2, w3, w4⟩ | ⟨rfl, w1, w2, w3, w4⟩ | ⟨rfl, w1, w2, w3, w4⟩ | ⟨h678, w1, w2, w3, w4, w5, w6⟩ | ⟨rfl, w1, w2, w3, w4⟩ | ⟨rfl, w1, w2, w3, w4⟩
    · have h5 : C5 (two 3 a b) (tkE (two 3 a b)).2 := by
        rw [tkE_two ho, w2, w3, w4]
        intro xs k t ts r ha he hr
        obtain ⟨a1, a2, a3⟩ := at_two ha
        have hm : isMk xs (k + (withinT (tkE a) 5).length) [43] = true := by rw [isMk_at a2]; rfl
        rw [len_two] at hr
        refine iha.c5 xs k _ _ r a1 rfl (Rds.plus hm (ihb.c6 xs _ (t :: ts) _ a3 (Rds.mulStop (end_mul a3.skip he))) ?_)
        rwa [show k + ((withinT (tkE a) 5).length + 1 + (withinT (tkE b) 6).length) = k + (withinT (tkE a) 5).length + 1 + (withinT (tkE b) 6).length by omega] at hr
      have hd : HD (tkE (two 3 a b)).2 := by
        obtain ⟨t0, r0, e0, q0⟩ := iha.hd 5 (.inl (by decide))
        rw [tkE_two ho, w2, e0]
        exact ⟨_, _, rfl, q0⟩
      have h4 := lift4 h5
      have h3 := lift3 h4 hd
      have h2 := lift2 h3
      exact cl_of (lift1 h2) (fun _ => h2) (fun _ => h3) (fun _ => ⟨h4, hd⟩) (fun _ => h5) (fun h => by omega) (fun h => by omega)
    · have h5 : C5 (two 4 a b) (tkE (two 4 a b)).2 := by
        rw [tkE_two ho, w2, w3, w4]
        intro xs k t ts r ha he hr
        obtain ⟨a1, a2, a3⟩ := at_two ha
        have hm : isMk xs (k + (withinT (tkE a) 5).length) [45] = true := by rw [isMk_at a2]; rfl
        have hm0 : isMk xs (k + (withinT (tkE a) 5).length) [43] = false := by rw [isMk_at a2]; rfl
        rw [len_two] at hr
        refine iha.c5 xs k _ _ r a1 rfl (Rds.minus hm0 hm (ihb.c6 xs _ (t :: ts) _ a3 (Rds.mulStop (end_mul a3.skip he))) ?_)
        rwa [show k + ((withinT (tkE a) 5).length + 1 + (withinT (tkE b) 6).length) = k + (withinT (tkE a) 5).length + 1 + (withinT (tkE b) 6).length by omega] at hr
      have hd : HD (tkE (two 4 a b)).2 := by
        obtain ⟨t0, r0, e0, q0⟩ := iha.hd 5 (.inl (by decide))
        rw [tkE_two ho, w2, e0]
        exact ⟨_, _, rfl, q0⟩
      have h4 := lift4 h5
      have h3 := lift3 h4 hd
      have h2 := lift2 h3
      exact cl_of (lift1 h2) (fun _ => h2) (fun _ => h3) (fun _ => ⟨h4, hd⟩) (fun _ => h5) (fun h => by omega) (fun h => by omega)
    · have h6 : C6 (two 5 a b) (tkE (two 5 a b)).2 := by
        rw [tkE_two ho, w2, w3, w4]
        intro xs k ts r ha hr
        obtain ⟨a1, a2, a3⟩ := at_two ha
        have hm : isMk xs (k + (withinT (tkE a) 6).length) [42] = true := by rw [isMk_at a2]; rfl
        rw [len_two] at hr
        refine iha.c6 xs k _ r a1 (Rds.times hm (ihb.c7 xs _ ts a3) ?_)
        rwa [show k + ((withinT (tkE a) 6).length + 1 + (withinT (tkE b) 7).length) = k + (withinT (tkE a) 6).length + 1 + (withinT (tkE b) 7).length by omega] at hr
      have hd : HD (tkE (two 5 a b)).2 := by
        obtain ⟨t0, r0, e0, q0⟩ := iha.hd 6 (.inl (by decide))
        rw [tkE_two ho, w2, e0]
        exact ⟨_, _, rfl, q0⟩
      have h5 := lift5 h6
      have h4 := lift4 h5
      have h3 := lift3 h4 hd
      have h2 := lift2 h3
      exact cl_of (lift1 h2) (fun _ => h2) (fun _ => h3) (fun _ => ⟨h4, hd⟩) (fun _ => h5) (fun _ => h6) (fun h => by omega)
    · have h4 : C4 (two op a b) (tkE (two op a b)).2 := by
        rw [tkE_two ho, w2, w3, w4]
        intro xs k t ts ha he
        obtain ⟨a1, a2, a3⟩ := at_two ha
        have hk := at_kt a2
        have hc : (lxAt xs (k + (withinT (tkE a) 5).length)).kind = 3 ∧ isCmp (lxAt xs (k + (withinT (tkE a) 5).length)).text = true := ⟨hk.1, by rw [hk.2.1]; exact w5⟩
        have hs := a3.skip
        have hadd := end_add hs he.2.1
        have e5 : end5 (mkT (signP op)) := by rcases h678 with rfl | rfl | rfl <;> rfl
        have eA : bAdd (mkT (signP op)) = false := by rcases h678 with rfl | rfl | rfl <;> rfl
        have hadd2 := end_add a2 eA
        have h9 := Rds.compTwo (iha.c5 xs k _ _ _ a1 e5 (Rds.addStop hadd2.1 hadd2.2)) hc (ihb.c5 xs _ t ts _ a3 he.1 (Rds.addStop hadd.1 hadd.2))
        rw [hk.2.1] at h9
        have h10 : cmpE (mkT (signP op)).text a b = two op a b := w6 a b
        rw [h10] at h9
        simp only
        rw [len_two, show k + ((withinT (tkE a) 5).length + 1 + (withinT (tkE b) 5).length) = k + (withinT (tkE a) 5).length + 1 + (withinT (tkE b) 5).length by omega]
        exact h9
      have hd : HD (tkE (two op a b)).2 := by
        obtain ⟨t0, r0, e0, q0⟩ := iha.hd 5 (.inl (by decide))
        rw [tkE_two ho, w2, e0]
        exact ⟨_, _, rfl, q0⟩
      have h3 := lift3 h4 hd
      have h2 := lift2 h3
      exact cl_of (lift1 h2) (fun _ => h2) (fun _ => h3) (fun _ => ⟨h4, hd⟩) (fun h => by omega) (fun h => by omega) (fun h => by omega)
    · have h2 : C2 (two 10 a b) (tkE (two 10 a b)).2 := by
        rw [tkE_two ho, w2, w3, w4]
        intro xs k t ts r ha he hr
        obtain ⟨a1, a2, a3⟩ := at_two ha
        have hm : isWd xs (k + (withinT (tkE a) 2).length) andW = true := by rw [isWd_at a2]; rfl
        rw [len_two] at hr
        refine iha.c2 xs k _ _ r a1 ⟨rfl, rfl, rfl⟩ (Rds.andMore hm (ihb.c3 xs _ t ts a3 he) ?_)
        rwa [show k + ((withinT (tkE a) 2).length + 1 + (withinT (tkE b) 3).length) = k + (withinT (tkE a) 2).length + 1 + (withinT (tkE b) 3).length by omega] at hr
      exact cl_of (lift1 h2) (fun _ => h2) (fun h => by omega) (fun h => by omega) (fun h => by omega) (fun h => by omega) (fun h => by omega)
    · have h1 : C1 (two 11 a b) (tkE (two 11 a b)).2 := by
        rw [tkE_two ho, w2, w3, w4]
        intro xs k t ts r ha he hr
        obtain ⟨a1, a2, a3⟩ := at_two ha
        have hm : isWd xs (k + (withinT (tkE a) 1).length) orW = true := by rw [isWd_at a2]; rfl
        have hge : withinT (tkE a) 1 = (tkE a).2 := within_ge (own_pos a)
        rw [hge] at a1 a2 a3 hm hr
        rw [len_two] at hr
        have hs := a3.skip
        refine iha.c1 xs k _ _ r a1 ⟨⟨rfl, rfl, rfl⟩, rfl⟩ (Rds.orMore hm (ihb.c2 xs _ t ts _ a3 he.1 (Rds.andStop (end_and hs he.2))) ?_)
        rwa [show k + ((tkE a).2.length + 1 + (withinT (tkE b) 2).length) = k + (tkE a).2.length + 1 + (withinT (tkE b) 2).length by omega] at hr
      exact cl_of h1 (fun h => by omega) (fun h => by omega) (fun h => by omega) (fun h => by omega) (fun h => by omega) (fun h => by omega)

end Saw

namespace Saw

/-- An expression and its depth's check. -/
def wholeE (xs : List Lx) (k : Nat) : RR :=
  match rd xs (12 * xs.length + 8) .expr k with
  | some (.ok e k') => if 8 < e.depth then .bad 28 (lxAt xs k).off else .ok e k'
  | some (.bad er off) => .bad er off
  | none => .bad 0 0
/-- The expression that a text describes, or an error and its offset. -/
def parseX (l : List UInt8) : Ex × Int × Int :=
  if (scanP l).2.1 ≠ 0 then (Ex.zero, (scanP l).2.1, (scanP l).2.2) else
  match wholeE (scanP l).1 0 with
  | .bad er off => (Ex.zero, er, off)
  | .ok e k => if (lxAt (scanP l).1 k).kind = 0 then (e, 0, 0) else (Ex.zero, 5, (lxAt (scanP l).1 k).off)
/-- A rule. -/
structure Rl where
  grade : Int
  when_ : Ex
deriving DecidableEq
def ruleText (r : Rl) : List UInt8 := gradeW ++ [32] ++ Go.Lib.itoa r.grade ++ [32] ++ whenW ++ [32] ++ exprP r.when_ ++ [59, 10]
def ruleOk (r : Rl) : Bool := decide (0 ≤ r.grade) && decide (r.grade ≤ 9) && wellP r.when_
def formatR (l : List Rl) : List UInt8 :=
  if l.length ≤ 32 ∧ l.all ruleOk = true ∧ (l.flatMap ruleText).length ≤ 8000 then l.flatMap ruleText else []
/-- A rule, or an error and its offset. -/
def ruleE (xs : List Lx) (k : Nat) : (Rl × Nat) ⊕ (Int × Int) :=
  if isWd xs k gradeW = false then .inr (5, (lxAt xs k).off)
  else if (lxAt xs (k + 1)).kind = 2 ∧ 9 < (lxAt xs (k + 1)).num then .inr (26, (lxAt xs (k + 1)).off)
  else if (lxAt xs (k + 1)).kind ≠ 2 then .inr (5, (lxAt xs (k + 1)).off)
  else if isWd xs (k + 2) whenW = false then .inr (5, (lxAt xs (k + 2)).off)
  else match wholeE xs (k + 3) with
    | .bad er off => .inr (er, off)
    | .ok e k' => if isMk xs k' [59] = false then .inr (5, (lxAt xs k').off) else .inl (⟨(lxAt xs (k + 1)).num, e⟩, k' + 1)
def rulesE (xs : List Lx) : Nat → Nat → List Rl → List Rl × Int × Int
  | 0, _, acc => (acc, 0, 0)
  | n + 1, k, acc =>
    if (lxAt xs k).kind = 0 then (acc, 0, 0)
    else if isWd xs k gradeW = true ∧ acc.length = 32 then ([], 4, (lxAt xs k).off)
    else match ruleE xs k with
      | .inr (er, off) => ([], er, off)
      | .inl (r, k') => rulesE xs n k' (acc ++ [r])
def parseR (l : List UInt8) : List Rl × Int × Int :=
  if (scanP l).2.1 ≠ 0 then ([], (scanP l).2.1, (scanP l).2.2) else rulesE (scanP l).1 (scanP l).1.length 0 []

theorem whole_ok {xs : List Lx} (he : LxEnds xs) {k : Nat} (hk : k < xs.length) {e : Ex} {k' : Nat} (h : Rds xs .expr k (.ok e k')) (hd : e.depth ≤ 8) : wholeE xs k = .ok e k' := by
  obtain ⟨n, hn⟩ := h
  obtain ⟨r, hr⟩ := rd_total he (12 * xs.length + 8) .expr k hk (by simp only [Lv.rank]; omega)
  have := rd_uniq hr hn
  subst this
  rw [wholeE, hr]
  show (if _ then _ else _) = _
  rw [if_neg (by omega)]
theorem whole_cases {xs : List Lx} (he : LxEnds xs) {k : Nat} (hk : k < xs.length) : (∃ e k', Rds xs .expr k (.ok e k') ∧ e.depth ≤ 8 ∧ wholeE xs k = .ok e k' ∧ k < k' ∧ k' < xs.length) ∨ (∃ e k', Rds xs .expr k (.ok e k') ∧ 8 < e.depth ∧ wholeE xs k = .bad 28 (lxAt xs k).off ∧ k < k' ∧ k' < xs.length) ∨ ∃ er off, Rds xs .expr k (.bad er off) ∧ wholeE xs k = .bad er off := by
  obtain ⟨r, hr⟩ := rd_total he (12 * xs.length + 8) .expr k hk (by simp only [Lv.rank]; omega)
  cases r with
  | bad er off => exact .inr (.inr ⟨er, off, ⟨_, hr⟩, by rw [wholeE, hr]⟩)
  | ok e k' =>
    obtain ⟨h1, h2⟩ := rd_in he _ _ _ _ _ hk hr
    simp only [Lv.step] at h1
    by_cases hd : 8 < e.depth
    · exact .inr (.inl ⟨e, k', ⟨_, hr⟩, hd, by rw [wholeE, hr]; show (if _ then _ else _) = _; rw [if_pos hd], by omega, h2⟩)
    · exact .inl ⟨e, k', ⟨_, hr⟩, by omega, by rw [wholeE, hr]; show (if _ then _ else _) = _; rw [if_neg hd], by omega, h2⟩

/-! ### What is read is formed -/
theorem formed_two {op : Int} (ho : op = 3 ∨ op = 4 ∨ op = 5 ∨ op = 6 ∨ op = 7 ∨ op = 8 ∨ op = 10 ∨ op = 11) {a b : Ex} (ha : formedE a = true) (hb : formedE b = true) : formedE (two op a b) = true := by
  rw [formedE, Bool.and_eq_true] at ha hb
  rw [formedE, Bool.and_eq_true]
  refine ⟨?_, ?_⟩
  · rw [(two_op op a b).1, (two_op op a b).2]
    rcases ho with rfl | rfl | rfl | rfl | rfl | rfl | rfl | rfl <;> rfl
  · simp only [two, formedF, Bool.and_eq_true, and_true]
    exact ⟨ha, hb⟩
theorem formed_one {a : Ex} (ha : formedE a = true) : formedE (one 9 a) = true := by
  rw [formedE, Bool.and_eq_true] at ha
  rw [formedE, Bool.and_eq_true]
  refine ⟨rfl, ?_⟩
  simp only [one, formedF, Bool.and_eq_true, and_true]
  exact ha
theorem formed_num {n : Int} (h1 : -1099511627776 ≤ n) (h2 : n ≤ 1099511627776) : formedE ⟨1, n, [], .nil⟩ = true := by
  simp [formedE, headP, formedF, Fo.toList, takesP, h1, h2]
theorem formed_name {t : List UInt8} (h : namedP t = true) : formedE ⟨2, 0, t, .nil⟩ = true := by
  simp [formedE, headP, formedF, Fo.toList, takesP, h]
theorem formed_cmp {t : List UInt8} {a b : Ex} (ha : formedE a = true) (hb : formedE b = true) : formedE (cmpE t a b) = true := by
  unfold cmpE
  split
  · exact formed_two (by decide) ha hb
  · split
    · exact formed_one (formed_two (by decide) ha hb)
    · split
      · exact formed_two (by decide) ha hb
      · split
        · exact formed_two (by decide) ha hb
        · split
          · exact formed_two (by decide) hb ha
          · exact formed_two (by decide) hb ha
def Lv.acc : Lv → Bool
  | .orL e => formedE e
  | .andL e => formedE e
  | .addL e => formedE e
  | .mulL e => formedE e
  | _ => true
theorem rd_formed {xs : List Lx} (hn : ∀ x ∈ xs, 0 ≤ x.num ∧ x.num ≤ 1099511627776) : ∀ (n : Nat) (lv : Lv) (k : Nat) (e : Ex) (k' : Nat), lv.acc = true → rd xs n lv k = some (.ok e k') → formedE e = true := by
  have hl : ∀ k, 0 ≤ (lxAt xs k).num ∧ (lxAt xs k).num ≤ 1099511627776 := fun k => by
    rw [lxAt]
    cases hj : xs[k]? with
    | none => exact ⟨Int.le_refl _, by decide⟩
    | some x => exact hn x (List.mem_of_getElem? hj)
  intro n
  induction n with
  | zero => intro lv k e k' _ h; cases h
  | succ n ih =>
    intro lv k e k' ha h
    cases lv with
    | expr =>
      rw [rd] at h
      obtain ⟨e1, k1, h1, h2⟩ := andThen_ok h
      exact ih (.orL e1) _ _ _ (ih .conj _ _ _ rfl h1) h2
    | orL e0 =>
      rw [rd] at h
      split at h
      · obtain ⟨e1, k1, h1, h2⟩ := andThen_ok h
        exact ih (.orL _) _ _ _ (formed_two (by decide) ha (ih .conj _ _ _ rfl h1)) h2
      · injection h with h; injection h with h _; subst h; exact ha
    | conj =>
      rw [rd] at h
      obtain ⟨e1, k1, h1, h2⟩ := andThen_ok h
      exact ih (.andL e1) _ _ _ (ih .neg _ _ _ rfl h1) h2
    | andL e0 =>
      rw [rd] at h
      split at h
      · obtain ⟨e1, k1, h1, h2⟩ := andThen_ok h
        exact ih (.andL _) _ _ _ (formed_two (by decide) ha (ih .neg _ _ _ rfl h1)) h2
      · injection h with h; injection h with h _; subst h; exact ha
    | neg =>
      rw [rd] at h
      split at h
      · obtain ⟨e1, k1, h1, h2⟩ := andThen_ok h
        injection h2 with h2; injection h2 with h2 _; subst h2
        exact formed_one (ih .neg _ _ _ rfl h1)
      · exact ih .comp _ _ _ rfl h
    | comp =>
      rw [rd] at h
      obtain ⟨e1, k1, h1, h2⟩ := andThen_ok h
      split at h2
      · obtain ⟨e2, k2, h3, h4⟩ := andThen_ok h2
        injection h4 with h4; injection h4 with h4 _; subst h4
        exact formed_cmp (ih .sum _ _ _ rfl h1) (ih .sum _ _ _ rfl h3)
      · injection h2 with h2; injection h2 with h2 _; subst h2
        exact ih .sum _ _ _ rfl h1
    | sum =>
      rw [rd] at h
      obtain ⟨e1, k1, h1, h2⟩ := andThen_ok h
      exact ih (.addL e1) _ _ _ (ih .term _ _ _ rfl h1) h2
    | addL e0 =>
      rw [rd] at h
      split at h
      · obtain ⟨e1, k1, h1, h2⟩ := andThen_ok h
        exact ih (.addL _) _ _ _ (formed_two (by decide) ha (ih .term _ _ _ rfl h1)) h2
      · split at h
        · obtain ⟨e1, k1, h1, h2⟩ := andThen_ok h
          exact ih (.addL _) _ _ _ (formed_two (by decide) ha (ih .term _ _ _ rfl h1)) h2
        · injection h with h; injection h with h _; subst h; exact ha
    | term =>
      rw [rd] at h
      obtain ⟨e1, k1, h1, h2⟩ := andThen_ok h
      exact ih (.mulL e1) _ _ _ (ih .fact _ _ _ rfl h1) h2
    | mulL e0 =>
      rw [rd] at h
      split at h
      · obtain ⟨e1, k1, h1, h2⟩ := andThen_ok h
        exact ih (.mulL _) _ _ _ (formed_two (by decide) ha (ih .fact _ _ _ rfl h1)) h2
      · injection h with h; injection h with h _; subst h; exact ha
    | fact =>
      rw [rd] at h
      split at h
      · injection h with h; injection h with h _; subst h
        have := hl k
        exact formed_num (by omega) this.2
      · split at h
        · split at h
          · rename_i h3
            injection h with h; injection h with h _; subst h
            exact formed_name h3
          · injection h with h; cases h
        · split at h
          · split at h
            · injection h with h; injection h with h _; subst h
              have := hl (k + 1)
              exact formed_num (by omega) (by omega)
            · injection h with h; cases h
          · split at h
            · obtain ⟨e1, k1, h1, h2⟩ := andThen_ok h
              split at h2
              · injection h2 with h2; injection h2 with h2 _; subst h2
                exact ih .expr _ _ _ rfl h1
              · injection h2 with h2; cases h2
            · injection h with h; cases h
theorem valN_le : ∀ (l : List UInt8) (n m : Int), n ≤ 1099511627776 → valN n l = some m → m ≤ 1099511627776
  | [], n, m, h, hv => by injection hv with hv; omega
  | c :: r, n, m, _, hv => by
    rw [valN] at hv
    split at hv
    · cases hv
    · exact valN_le r _ m (by omega) hv
theorem lexOK_le {x : Lx} (h : lexOK x) : 0 ≤ x.num ∧ x.num ≤ 1099511627776 := by
  rcases lexOK_canon h with h1 | h1 | h1
  · rw [h1.2]; decide
  · refine ⟨h1.2.2, ?_⟩
    obtain ⟨_, hr⟩ := h
    have h2 := hr 0
    cases hx : x.text with
    | nil => rw [hx, readP] at h2; injection h2 with h3 h4; cases h4
    | cons c r =>
      rw [hx, readP] at h2
      split at h2
      · split at h2
        · injection h2 with h3 h4; cases h4
        · injection h2 with h3 h4
          have := congrArg Lx.kind h3
          rw [h1.1] at this
          cases this
      · split at h2
        · split at h2
          · injection h2 with h3 h4
            have h5 := congrArg Lx.num h3
            simp only at h5
            rw [← h5]
            rename_i hv
            rw [valueP] at hv ⊢
            split at hv
            · cases hv
            · rename_i hq
              rw [if_neg hq]
              cases hvn : valN 0 (List.take (spanN digI (c :: r)) (c :: r)) with
              | none => rw [hvn] at hv; cases hv
              | some m => exact valN_le _ 0 m (by decide) hvn
          · injection h2 with h3 h4
            rename_i hv
            exact absurd h4 hv
        · split at h2
          · injection h2 with h3 h4
            have := congrArg Lx.kind h3
            rw [h1.1] at this
            cases this
          · split at h2
            · injection h2 with h3 h4
              have := congrArg Lx.kind h3
              rw [h1.1] at this
              cases this
            · injection h2 with h3 h4; cases h4
  · rw [h1.2]; decide
theorem scan_nums {s : List UInt8} {xs : List Lx} (h : scanP s = (xs, 0, 0)) : LxEnds xs ∧ (∀ x ∈ xs, 0 ≤ x.num ∧ x.num ≤ 1099511627776) ∧ 0 < xs.length := by
  obtain ⟨ys, rfl, hk, hok, _⟩ := scanP_can h
  refine ⟨endsP hk, fun x hx => ?_, by rw [List.length_append, List.length_singleton]; omega⟩
  rcases List.mem_append.1 hx with hx | hx
  · exact lexOK_le (hok x hx)
  · rw [List.mem_singleton.1 hx]; exact ⟨Int.le_refl _, (by decide : (0:Int) ≤ 1099511627776)⟩

/-! ### Lengths of texts -/
theorem named_len {t : List UInt8} (h : namedP t = true) : t.length ≤ 16 := by
  rw [namedP, Bool.and_eq_true] at h
  exact (isNameP_len h.1).2
theorem itoa_len21 {n : Int} (h1 : -1099511627776 ≤ n) (h2 : n ≤ 1099511627776) : (Go.Lib.itoa n).length ≤ 21 :=
  Go.Lib.itoa_length_le n (by omega) (by omega)
theorem within_len (x : Ex) (least : Int) : (within (txE x) least).length ≤ (txE x).2.length + 2 := by
  rw [within]
  split
  · simp only [List.length_append, List.length_cons, List.length_nil]; omega
  · omega
theorem sign_len (op : Int) : (signP op).length ≤ 3 := by
  unfold signP
  repeat (split <;> try decide)
theorem depth_one (a : Ex) : (one 9 a).depth = a.depth + 1 := by
  simp only [Ex.depth, one, Fo.depth]; omega
theorem depth_two (op : Int) (a b : Ex) : (two op a b).depth = max a.depth b.depth + 1 := by
  simp only [Ex.depth, two, Fo.depth]; omega
theorem pow_mono {a b : Nat} (h : a ≤ b) : 2 ^ a ≤ 2 ^ b := Nat.pow_le_pow_right (by decide) h
/-- A text's length, by the depth. -/
theorem tx_len {x : Ex} (hf : formedE x = true) : 2 * ((txE x).2.length + 9) ≤ 30 * 2 ^ x.depth := by
  refine formed_induct (P := fun x => 2 * ((txE x).2.length + 9) ≤ 30 * 2 ^ x.depth) ?_ ?_ ?_ ?_ x hf
  · intro x h1 _ h3 h4 h5
    rw [txE_num h1]
    have := itoa_len21 h4 h5
    have hd : x.depth = 1 := by rw [Ex.depth, h3]; rfl
    rw [hd]
    simp only
    omega
  · intro x h1 _ h3 h4
    rw [txE_name h1]
    have := named_len h3
    have hd : x.depth = 1 := by rw [Ex.depth, h4]; rfl
    rw [hd]
    simp only
    omega
  · intro a _ ih
    rw [txE_not, depth_one, Nat.pow_succ]
    have := within_len a 3
    simp only [List.length_append, notW, List.length_cons, List.length_nil]
    omega
  · intro op a b ho _ _ iha ihb
    rw [txE_two ho, depth_two, Nat.pow_succ]
    have h1 := within_len a (firstP op)
    have h2 := within_len b (secondP op)
    have h3 := sign_len op
    have h4 := pow_mono (Nat.le_max_left a.depth b.depth)
    have h5 := pow_mono (Nat.le_max_right a.depth b.depth)
    simp only [List.length_append, List.length_cons, List.length_nil]
    omega

end Saw

namespace Saw

theorem end_bare (p : Int) : (lxEnd p).bare = lxEnd 0 := rfl
theorem atK_whole {ys : List Lx} {p : Int} {ts : List Lx} (h : ys.map Lx.bare = ts) : AtK (ys ++ [lxEnd p]) 0 (ts ++ [lxEnd 0]) := ⟨[], by rw [List.drop_zero, List.map_append, h, List.append_nil]; rfl⟩
theorem end1_end : end1 (lxEnd 0) := ⟨⟨rfl, rfl, rfl⟩, rfl⟩
theorem end1_semi : end1 (mkT [59]) := ⟨⟨rfl, rfl, rfl⟩, rfl⟩
/-- An expression ahead of what ends it. -/
theorem rds_at {xs : List Lx} {k : Nat} {x : Ex} {t : Lx} {ts : List Lx} (hf : formedE x = true) (h : AtK xs k ((tkE x).2 ++ t :: ts)) (he : end1 t) (ho : (t.kind == 1 && t.text == orW) = false) : Rds xs .expr k (.ok x (k + (tkE x).2.length)) :=
  (cl_all hf).c1 xs k t ts _ h he (Rds.orStop (by rw [isWd_at h.skip]; exact ho))
theorem well_split {x : Ex} (h : wellP x = true) : formedE x = true ∧ x.depth ≤ 8 := by
  rw [wellP, Bool.and_eq_true, decide_eq_true_eq] at h; exact h
theorem tx_len8 {x : Ex} (h : wellP x = true) : (txE x).2.length ≤ 3831 := by
  have h1 := tx_len (well_split h).1
  have h2 := pow_mono (well_split h).2
  omega
/-- A scan of a text out of lexemes. -/
theorem lexes_scan {t : List UInt8} {ts : List Lx} (h : Lexes t ts) (hl : t.length ≤ 8000) : ∃ ys, scanP t = (ys ++ [lxEnd t.length], 0, 0) ∧ ys.map Lx.bare = ts ∧ ∀ y ∈ ys, y.kind ≠ 0 := by
  obtain ⟨ys, h1, h2, h3⟩ := h 0
  rw [Int.zero_add] at h1
  exact ⟨ys, by rw [scanP_eq t hl, h1], h2, h3⟩
/-- What an expression's lexemes, and only they, are read as. -/
theorem parse_toksE {t : List UInt8} {ys : List Lx} {x : Ex} (hw : wellP x = true) (hs : scanP t = (ys ++ [lxEnd t.length], 0, 0)) (hb : ys.map Lx.bare = (tkE x).2) (hk : ∀ y ∈ ys, y.kind ≠ 0) : parseX t = (x, 0, 0) := by
  obtain ⟨hf, hd⟩ := well_split hw
  have ha := atK_whole (p := (t.length : Int)) hb
  have h1 := rds_at hf ha end1_end rfl
  have hl : 0 < (ys ++ [lxEnd (t.length : Int)]).length := by rw [List.length_append, List.length_singleton]; omega
  have h2 := whole_ok (endsP hk) hl h1 hd
  have h3 : (lxAt (ys ++ [lxEnd (t.length : Int)]) (0 + (tkE x).2.length)).kind = 0 := (at_kt ha.skip).1
  rw [parseX, hs]
  simp only [ne_eq, not_true_eq_false, if_false, h2]
  rw [if_pos h3]
theorem parse_expr {x : Ex} (h : wellP x = true) : parseX (exprP x) = (x, 0, 0) := by
  have hl := lexE_of (well_split h).1 [] [] rfl Lexes.nil
  rw [List.append_nil, List.append_nil] at hl
  have h1 := tx_len8 h
  obtain ⟨ys, e1, e2, e3⟩ := lexes_scan hl (by omega)
  rw [exprP, if_pos h]
  exact parse_toksE h e1 e2 e3
theorem andThen_bad {r : Option RR} {f : Ex → Nat → Option RR} {er off : Int} (h : andThen r f = some (.bad er off)) : r = some (.bad er off) ∨ ∃ e' k', r = some (.ok e' k') ∧ f e' k' = some (.bad er off) := by
  rcases andThen_some h with ⟨er', off', h1, h2⟩ | ⟨e', k', h1, h2⟩
  · injection h2 with h2 h3; subst h2 h3; exact .inl h1
  · exact .inr ⟨e', k', h1, h2⟩
/-- An error is one of two. -/
theorem rd_err {xs : List Lx} : ∀ (n : Nat) (lv : Lv) (k : Nat) (er off : Int), rd xs n lv k = some (.bad er off) → er = 5 ∨ er = 6 := by
  intro n
  induction n with
  | zero => intro lv k er off h; cases h
  | succ n ih =>
    have hb : ∀ {lv : Lv} {k : Nat} {f : Ex → Nat → Option RR} {er off : Int}, andThen (rd xs n lv k) f = some (.bad er off) → (∀ e' k', f e' k' = some (.bad er off) → er = 5 ∨ er = 6) → er = 5 ∨ er = 6 := fun h hf => by
      rcases andThen_bad h with h1 | ⟨e', k', _, h2⟩
      · exact ih _ _ _ _ h1
      · exact hf _ _ h2
    intro lv k er off h
    cases lv with
    | expr => exact hb h fun _ _ h => ih _ _ _ _ h
    | conj => exact hb h fun _ _ h => ih _ _ _ _ h
    | sum => exact hb h fun _ _ h => ih _ _ _ _ h
    | term => exact hb h fun _ _ h => ih _ _ _ _ h
    | orL e0 =>
      rw [rd] at h
      split at h
      · exact hb h fun _ _ h => ih _ _ _ _ h
      · injection h with h; cases h
    | andL e0 =>
      rw [rd] at h
      split at h
      · exact hb h fun _ _ h => ih _ _ _ _ h
      · injection h with h; cases h
    | mulL e0 =>
      rw [rd] at h
      split at h
      · exact hb h fun _ _ h => ih _ _ _ _ h
      · injection h with h; cases h
    | addL e0 =>
      rw [rd] at h
      split at h
      · exact hb h fun _ _ h => ih _ _ _ _ h
      · split at h
        · exact hb h fun _ _ h => ih _ _ _ _ h
        · injection h with h; cases h
    | neg =>
      rw [rd] at h
      split at h
      · exact hb h fun _ _ h => by injection h with h; cases h
      · exact ih _ _ _ _ h
    | comp =>
      rw [rd] at h
      refine hb h fun _ _ h => ?_
      split at h
      · exact hb h fun _ _ h => by injection h with h; cases h
      · injection h with h; cases h
    | fact =>
      rw [rd] at h
      split at h
      · injection h with h; cases h
      · split at h
        · split at h
          · injection h with h; cases h
          · injection h with h; injection h with h _; exact .inr h.symm
        · split at h
          · split at h
            · injection h with h; cases h
            · injection h with h; injection h with h _; exact .inl h.symm
          · split at h
            · refine hb h fun _ _ h => ?_
              split at h
              · injection h with h; cases h
              · injection h with h; injection h with h _; exact .inl h.symm
            · injection h with h; injection h with h _; exact .inl h.symm
/-- What parses is well-formed, and its text parses as the same. -/
theorem parseX_ok {s : List UInt8} {x : Ex} {a : Int} (h : parseX s = (x, 0, a)) : a = 0 ∧ wellP x = true ∧ ∃ xs k, scanP s = (xs, 0, 0) ∧ Rds xs .expr 0 (.ok x k) ∧ k + 1 = xs.length := by
  rw [parseX] at h
  split at h
  · rename_i hz
    injection h with _ h; injection h with h _; exact absurd h hz
  · rename_i hz
    have hz : (scanP s).2.1 = 0 := by omega
    have hg := scanP_good s hz
    obtain ⟨zs, hxs, hk⟩ := hg.2.2.1
    have hsc : scanP s = ((scanP s).1, 0, 0) := Prod.ext rfl (Prod.ext hz hg.2.1)
    have hn := scan_nums hsc
    rcases whole_cases hn.1 hn.2.2 with ⟨e, k', h1, h2, h3, h4, h5⟩ | ⟨e, k', h1, h2, h3, h4, h5⟩ | ⟨er, off, h1, h3⟩
    · rw [h3] at h
      simp only at h
      split at h
      · rename_i he
        injection h with h6 h7
        injection h7 with _ h7
        subst h6
        obtain ⟨n, hr⟩ := h1
        refine ⟨h7.symm, ?_, _, k', hsc, ⟨n, hr⟩, ?_⟩
        · rw [wellP, Bool.and_eq_true, decide_eq_true_eq]
          exact ⟨rd_formed hn.2.1 _ _ _ _ _ rfl hr, h2⟩
        · rw [hxs] at h5 he ⊢
          rw [List.length_append, List.length_singleton] at h5 ⊢
          by_cases hlt : k' < zs.length
          · exfalso
            have hm : zs[k'] ∈ zs := List.getElem_mem hlt
            refine hk _ hm ?_
            rw [lxAt, List.getElem?_append_left hlt, List.getElem?_eq_getElem hlt] at he
            exact he
          · omega
      · injection h with _ h; injection h with h _; cases h
    · rw [h3] at h
      injection h with _ h; injection h with h _; cases h
    · rw [h3] at h
      injection h with _ h; injection h with h _
      exfalso
      obtain ⟨n, hr⟩ := h1
      rcases rd_err n _ _ _ _ hr with h9 | h9 <;> omega

/-! ### Tables -/
def rlT (r : Rl) : List Lx := nmT gradeW :: nuT r.grade :: nmT whenW :: ((tkE r.when_).2 ++ [mkT [59]])
theorem ruleOk_split {r : Rl} (h : ruleOk r = true) : 0 ≤ r.grade ∧ r.grade ≤ 9 ∧ wellP r.when_ = true := by
  rw [ruleOk, Bool.and_eq_true, Bool.and_eq_true, decide_eq_true_eq, decide_eq_true_eq] at h
  exact ⟨h.1.1, h.1.2, h.2⟩
theorem rule_lex {r : Rl} (h : ruleOk r = true) {l : List UInt8} {ts : List Lx} (hl : Lexes l ts) : Lexes (ruleText r ++ l) (rlT r ++ ts) := by
  obtain ⟨h0, h1, hw⟩ := ruleOk_split h
  have he : exprP r.when_ = (txE r.when_).2 := by rw [exprP, if_pos hw]
  simp only [ruleText, rlT, he, List.append_assoc, List.cons_append, List.nil_append]
  refine Lexes.word (by rfl) rfl (Lexes.blank (.inl rfl) (Lexes.num h0 (by omega) rfl (Lexes.blank (.inl rfl) (Lexes.word (by rfl) rfl (Lexes.blank (.inl rfl) ?_)))))
  refine lexE_of (well_split hw).1 _ _ rfl ?_
  exact Lexes.mark (m := [59]) (by decide) (fun _ => mark_alone 59 _ (by decide)) (Lexes.blank (.inr rfl) hl)
theorem table_lex : ∀ l : List Rl, (∀ r ∈ l, ruleOk r = true) → Lexes (l.flatMap ruleText) (l.flatMap rlT)
  | [], _ => Lexes.nil
  | r :: l, h => by
    rw [List.flatMap_cons, List.flatMap_cons]
    exact rule_lex (h r List.mem_cons_self) (table_lex l fun x hx => h x (List.mem_cons_of_mem _ hx))
theorem rule_read {xs : List Lx} (hx : LxEnds xs) {k : Nat} {r : Rl} {ts : List Lx} (h : ruleOk r = true) (ha : AtK xs k (rlT r ++ ts)) : ruleE xs k = .inl (r, k + (rlT r).length) ∧ isWd xs k gradeW = true ∧ AtK xs (k + (rlT r).length) ts := by
  obtain ⟨h0, h1, hw⟩ := ruleOk_split h
  obtain ⟨hf, hd⟩ := well_split hw
  have hend := ha.skip
  have a0 : AtK xs k (nmT gradeW :: nuT r.grade :: nmT whenW :: ((tkE r.when_).2 ++ mkT [59] :: ts)) := by simpa [rlT] using ha
  have a1 := a0.step.2.2
  have a2 := a1.step.2.2
  have a3 := a2.step.2.2
  have a4 := a3.skip
  have b0 : isWd xs k gradeW = true := by rw [isWd_at a0]; rfl
  have b1 := at_kt a1
  have b2 : isWd xs (k + 2) whenW = true := by
    have := isWd_at a2 whenW
    rw [show k + 1 + 1 = k + 2 from rfl] at this
    rw [this]; rfl
  have hk3 : k + 1 + 1 + 1 < xs.length := by
    obtain ⟨t, ts', he⟩ : ∃ t ts', (tkE r.when_).2 ++ mkT [59] :: ts = t :: ts' := by
      cases (tkE r.when_).2 with
      | nil => exact ⟨_, _, rfl⟩
      | cons a b => exact ⟨_, _, rfl⟩
    rw [he] at a3
    exact a3.step.2.1
  have h2 := whole_ok hx hk3 (rds_at hf a3 end1_semi rfl) hd
  have b4 : isMk xs (k + 1 + 1 + 1 + (tkE r.when_).2.length) [59] = true := by rw [isMk_at a4]; rfl
  refine ⟨?_, b0, hend⟩
  have b11 : (lxAt xs (k + 1)).kind = 2 := b1.1
  have b12 : (lxAt xs (k + 1)).num = r.grade := b1.2.2
  rw [ruleE, if_neg (by rw [b0]; decide), if_neg (by rw [b11, b12]; omega), if_neg (by rw [b11]; decide), if_neg (by rw [b2]; decide), show k + 3 = k + 1 + 1 + 1 from rfl, h2]
  simp only
  rw [if_neg (by rw [b4]; decide), b12]
  have : k + 1 + 1 + 1 + (tkE r.when_).2.length + 1 = k + (rlT r).length := by simp only [rlT, List.length_cons, List.length_append, List.length_nil]; omega
  rw [this]
theorem rules_read {xs : List Lx} (hx : LxEnds xs) : ∀ (l : List Rl) (n k : Nat) (acc : List Rl), (∀ r ∈ l, ruleOk r = true) → AtK xs k (l.flatMap rlT ++ [lxEnd 0]) → l.length < n → acc.length + l.length ≤ 32 → rulesE xs n k acc = (acc ++ l, 0, 0)
  | [], n + 1, k, acc, _, ha, _, _ => by
    have : (lxAt xs k).kind = 0 := (at_kt (t := lxEnd 0) (ts := []) ha).1
    rw [rulesE, if_pos this, List.append_nil]
  | r :: l, n + 1, k, acc, h, ha, hn, hl => by
    rw [List.flatMap_cons, List.append_assoc] at ha
    obtain ⟨h1, h2, h3⟩ := rule_read hx (h r List.mem_cons_self) ha
    have hk : (lxAt xs k).kind ≠ 0 := by rw [lxIs_kind' h2]; decide
    simp only [List.length_cons] at hn hl
    rw [rulesE, if_neg hk, if_neg (by omega), h1]
    simp only
    rw [rules_read hx l n _ (acc ++ [r]) (fun x hx => h x (List.mem_cons_of_mem _ hx)) h3 (by omega) (by rw [List.length_append, List.length_singleton]; omega), List.append_assoc]
    rfl
  | _, 0, _, _, _, _, hn, _ => by omega
theorem rlT_len (r : Rl) : 1 ≤ (rlT r).length := by simp only [rlT, List.length_cons]; omega
theorem flat_len : ∀ l : List Rl, l.length ≤ (l.flatMap rlT).length
  | [] => Nat.le_refl _
  | r :: l => by
    rw [List.flatMap_cons, List.length_append, List.length_cons]
    have := flat_len l
    have := rlT_len r
    omega
/-- A table's text is read back. -/
theorem parse_table {l : List Rl} (h : ∀ r ∈ l, ruleOk r = true) (hl : l.length ≤ 32) (ht : (l.flatMap ruleText).length ≤ 8000) : parseR (l.flatMap ruleText) = (l, 0, 0) := by
  obtain ⟨ys, e1, e2, e3⟩ := lexes_scan (table_lex l h) ht
  rw [parseR, e1]
  simp only [ne_eq, not_true_eq_false, if_false]
  have := flat_len l
  have hy : ys.length = (l.flatMap rlT).length := by rw [← e2, List.length_map]
  exact rules_read (endsP e3) l _ 0 [] h (atK_whole e2) (by rw [List.length_append, List.length_singleton]; omega) (by simpa using hl)
theorem parse_format {l : List Rl} (h : formatR l ≠ []) : parseR (formatR l) = (l, 0, 0) := by
  rw [formatR] at h ⊢
  split at h
  · rename_i h1
    rw [if_pos h1]
    exact parse_table (fun r hr => List.all_eq_true.1 h1.2.1 r hr) h1.1 h1.2.2
  · exact absurd rfl h
/-- What is parsed is well-formed. -/
theorem rulesE_ok {xs : List Lx} (hx : LxEnds xs) (hn : ∀ x ∈ xs, 0 ≤ x.num ∧ x.num ≤ 1099511627776) : ∀ (n k : Nat) (acc l : List Rl) (a : Int), k < xs.length → (∀ r ∈ acc, ruleOk r = true) → acc.length ≤ 32 → rulesE xs n k acc = (l, 0, a) → a = 0 ∧ l.length ≤ 32 ∧ ∀ r ∈ l, ruleOk r = true := by
  intro n
  induction n with
  | zero => intro k acc l a hk ha hl h; rw [rulesE] at h; injection h with h1 h2; injection h2 with _ h3; subst h1; exact ⟨h3.symm, hl, ha⟩
  | succ n ih =>
    intro k acc l a hk ha hl h
    rw [rulesE] at h
    split at h
    · injection h with h1 h2; injection h2 with _ h3; subst h1; exact ⟨h3.symm, hl, ha⟩
    · split at h
      · injection h with _ h; injection h with h _; cases h
      · rename_i h32
        split at h
        · rename_i er off hr
          injection h with _ h2
          injection h2 with h2 _
          exfalso
          rw [ruleE] at hr
          split at hr
          · injection hr with hr; injection hr with hr _; omega
          · rename_i hg0
            split at hr
            · injection hr with hr; injection hr with hr _; omega
            · split at hr
              · injection hr with hr; injection hr with hr _; omega
              · split at hr
                · injection hr with hr; injection hr with hr _; omega
                · rename_i _ hg hw
                  have hk1 : k + 1 < xs.length := isWd_in hx hk (by simpa using hg0)
                  have hk2 : k + 1 + 1 < xs.length := lxEnds_next hx hk1 (by rw [Decidable.not_not.1 hg]; decide)
                  have hk3 : k + 3 < xs.length := isWd_in hx (k := k + 2) hk2 (by simpa using hw)
                  rcases whole_cases hx hk3 with ⟨e, k', h1, h2', h3, h4, h5⟩ | ⟨e, k', h1, h2', h3, h4, h5⟩ | ⟨er', off', h1, h3⟩
                  · rw [h3] at hr
                    simp only at hr
                    split at hr
                    · injection hr with hr; injection hr with hr _; omega
                    · cases hr
                  · rw [h3] at hr
                    injection hr with hr; injection hr with hr _; omega
                  · rw [h3] at hr
                    injection hr with hr
                    injection hr with hr _
                    obtain ⟨m, h1⟩ := h1
                    rcases rd_err m _ _ _ _ h1 with h9 | h9 <;> omega
        · rename_i r k' hr
          rw [ruleE] at hr
          split at hr
          · cases hr
          · rename_i hg0
            split at hr
            · cases hr
            · rename_i hgr
              split at hr
              · cases hr
              · rename_i hg
                split at hr
                · cases hr
                · rename_i hw
                  have hk1 : k + 1 < xs.length := isWd_in hx hk (by simpa using hg0)
                  have hg2 : (lxAt xs (k + 1)).kind = 2 := Decidable.not_not.1 hg
                  have hk2 : k + 1 + 1 < xs.length := lxEnds_next hx hk1 (by rw [hg2]; decide)
                  have hk3 : k + 3 < xs.length := isWd_in hx (k := k + 2) hk2 (by simpa using hw)
                  rcases whole_cases hx hk3 with ⟨e, k2, h1, h2, h3, h4, h5⟩ | ⟨e, k2, h1, h2, h3, h4, h5⟩ | ⟨er', off', h1, h3⟩
                  · rw [h3] at hr
                    simp only at hr
                    split at hr
                    · cases hr
                    · rename_i hsm
                      injection hr with hr
                      injection hr with hr1 hr2
                      have hk9 : k' < xs.length := by rw [← hr2]; exact isMk_in hx h5 (by simpa using hsm)
                      have hro : ruleOk r = true := by
                        obtain ⟨m, h1⟩ := h1
                        have hnum := hn _ (List.mem_of_getElem? (lxAt_some hk1))
                        rw [← hr1, ruleOk, wellP, rd_formed hn _ _ _ _ _ rfl h1]
                        simp only [Bool.true_and, Bool.and_eq_true, decide_eq_true_eq]
                        exact ⟨⟨hnum.1, by omega⟩, h2⟩
                      refine ih k' (acc ++ [r]) l a hk9 ?_ ?_ h
                      · intro y hy
                        rcases List.mem_append.1 hy with hy | hy
                        · exact ha y hy
                        · rw [List.mem_singleton.1 hy]; exact hro
                      · rw [List.length_append, List.length_singleton]
                        have : acc.length ≠ 32 := fun h9 => h32 ⟨by simpa using hg0, h9⟩
                        omega
                  · rw [h3] at hr; cases hr
                  · rw [h3] at hr; cases hr
theorem parseR_ok {s : List UInt8} {l : List Rl} {a : Int} (h : parseR s = (l, 0, a)) : a = 0 ∧ l.length ≤ 32 ∧ (∀ r ∈ l, ruleOk r = true) ∧ ∃ xs, scanP s = (xs, 0, 0) ∧ rulesE xs xs.length 0 [] = (l, 0, 0) := by
  rw [parseR] at h
  split at h
  · rename_i hz
    injection h with _ h; injection h with h _; exact absurd h hz
  · rename_i hz
    have hz : (scanP s).2.1 = 0 := by omega
    have hg := scanP_good s hz
    have hsc : scanP s = ((scanP s).1, 0, 0) := Prod.ext rfl (Prod.ext hz hg.2.1)
    have hn := scan_nums hsc
    obtain ⟨h1, h2, h3⟩ := rulesE_ok hn.1 hn.2.1 _ 0 [] l a hn.2.2 (by simp) (by simp) h
    subst h1
    exact ⟨rfl, h2, h3, _, hsc, h⟩

end Saw

namespace Saw

/-- A cost of expressions, and what a lexeme may cost. -/
structure Cost where
  cost : Ex → Nat
  sign : Int → Nat
  par : Nat
  lex : Lx → Nat
namespace Cost
/-- The cost where the expression must bind so strongly. -/
def at_ (C : Cost) (e : Ex) (least : Int) : Nat := C.cost e + (if ownP e.op < least then C.par else 0)
def pre (C : Cost) (xs : List Lx) (k : Nat) : Nat := ((xs.take k).map C.lex).sum
theorem at_mono (C : Cost) (e : Ex) {a b : Int} (h : a ≤ b) : C.at_ e a ≤ C.at_ e b := by
  rw [at_, at_]
  split
  · rw [if_pos (by omega)]; exact Nat.le_refl _
  · omega
theorem at_ge (C : Cost) {e : Ex} {a : Int} (h : a ≤ ownP e.op) : C.at_ e a = C.cost e := by rw [at_, if_neg (by omega)]; rfl
theorem at_le (C : Cost) (e : Ex) (a : Int) : C.at_ e a ≤ C.cost e + C.par := by
  rw [at_]; split <;> omega
theorem pre_succ (C : Cost) {xs : List Lx} {k : Nat} (h : k < xs.length) : C.pre xs (k + 1) = C.pre xs k + C.lex (lxAt xs k) := by
  rw [pre, pre, List.take_add_one, List.map_append, List.sum_append, lxAt, List.getElem?_eq_getElem h]
  simp
end Cost
/-- The cost fits the lexemes. -/
structure CostOk (C : Cost) (xs : List Lx) : Prop where
  num : ∀ x ∈ xs, x.kind = 2 → C.cost ⟨1, x.num, [], .nil⟩ ≤ C.lex x
  neg : ∀ x ∈ xs, ∀ y ∈ xs, lxIs x 3 [45] = true → y.kind = 2 → C.cost ⟨1, -y.num, [], .nil⟩ ≤ C.lex x + C.lex y
  name : ∀ x ∈ xs, x.kind = 1 → C.cost ⟨2, 0, x.text, .nil⟩ ≤ C.lex x
  one : ∀ a, C.cost (one 9 a) = C.sign 9 + C.at_ a 3
  two : ∀ op a b, (op = 3 ∨ op = 4 ∨ op = 5 ∨ op = 6 ∨ op = 7 ∨ op = 8 ∨ op = 10 ∨ op = 11) → C.cost (two op a b) = C.at_ a (firstP op) + C.sign op + C.at_ b (secondP op)
  paren : ∀ x ∈ xs, ∀ y ∈ xs, lxIs x 3 [40] = true → lxIs y 3 [41] = true → C.par ≤ C.lex x + C.lex y
  or_ : ∀ x ∈ xs, lxIs x 1 orW = true → C.sign 11 ≤ C.lex x
  and_ : ∀ x ∈ xs, lxIs x 1 andW = true → C.sign 10 ≤ C.lex x
  not_ : ∀ x ∈ xs, lxIs x 1 notW = true → C.sign 9 ≤ C.lex x
  plus : ∀ x ∈ xs, lxIs x 3 [43] = true → C.sign 3 ≤ C.lex x
  minus : ∀ x ∈ xs, lxIs x 3 [45] = true → C.sign 4 ≤ C.lex x
  times : ∀ x ∈ xs, lxIs x 3 [42] = true → C.sign 5 ≤ C.lex x
  eq : ∀ x ∈ xs, x.kind = 3 → x.text = [61] → C.sign 6 ≤ C.lex x
  ne : ∀ x ∈ xs, x.kind = 3 → x.text = [33, 61] → C.sign 9 + C.sign 6 ≤ C.lex x
  lt : ∀ x ∈ xs, x.kind = 3 → (x.text = [60] ∨ x.text = [62]) → C.sign 7 ≤ C.lex x
  le : ∀ x ∈ xs, x.kind = 3 → (x.text = [60, 61] ∨ x.text = [62, 61]) → C.sign 8 ≤ C.lex x
def Lv.str : Lv → Int
  | .expr => 1
  | .orL _ => 1
  | .conj => 2
  | .andL _ => 2
  | .neg => 3
  | .comp => 3
  | .sum => 5
  | .addL _ => 5
  | .term => 6
  | .mulL _ => 6
  | .fact => 7
def Lv.spent (C : Cost) : Lv → Nat
  | .orL e => C.at_ e 1
  | .andL e => C.at_ e 2
  | .addL e => C.at_ e 5
  | .mulL e => C.at_ e 6
  | _ => 0
theorem own_two {op : Int} {a b : Ex} : ownP (two op a b).op = ownP op := rfl
theorem mem_at {xs : List Lx} {k : Nat} (h : k < xs.length) : lxAt xs k ∈ xs := List.mem_of_getElem? (lxAt_some h)
/-- What a comparison's mark makes costs no more than its sides and the mark. -/
theorem cost_cmp {C : Cost} {xs : List Lx} (hC : CostOk C xs) {x : Lx} (hx : x ∈ xs) (h3 : x.kind = 3) (hc : isCmp x.text = true) (a b : Ex) : C.at_ (cmpE x.text a b) 3 ≤ C.at_ a 5 + C.lex x + C.at_ b 5 := by
  have h6 : C.at_ (two 6 a b) 3 = C.at_ a 5 + C.sign 6 + C.at_ b 5 := by rw [C.at_ge (by decide : (3 : Int) ≤ ownP 6), hC.two 6 a b (by decide)]; rfl
  rw [isCmp] at hc
  simp only [Bool.or_eq_true, beq_iff_eq] at hc
  unfold cmpE
  split
  · rename_i h
    have := hC.eq x hx h3 h
    omega
  · split
    · rename_i h
      have := hC.ne x hx h3 h
      rw [C.at_ge (by decide : (3 : Int) ≤ ownP 9), hC.one]
      omega
    · split
      · rename_i h
        have := hC.lt x hx h3 (.inl h)
        rw [C.at_ge (by decide : (3 : Int) ≤ ownP 7), hC.two 7 a b (by decide)]
        show C.at_ a 5 + C.sign 7 + C.at_ b 5 ≤ _
        omega
      · split
        · rename_i h
          have := hC.le x hx h3 (.inl h)
          rw [C.at_ge (by decide : (3 : Int) ≤ ownP 8), hC.two 8 a b (by decide)]
          show C.at_ a 5 + C.sign 8 + C.at_ b 5 ≤ _
          omega
        · split
          · rename_i h
            have := hC.lt x hx h3 (.inr h)
            rw [C.at_ge (by decide : (3 : Int) ≤ ownP 7), hC.two 7 b a (by decide)]
            show C.at_ b 5 + C.sign 7 + C.at_ a 5 ≤ _
            omega
          · rename_i n1 n2 n3 n4 n5
            have h : x.text = [62, 61] := by
              rcases hc with ((((h | h) | h) | h) | h) | h
              · exact absurd h n1
              · exact absurd h n2
              · exact absurd h n3
              · exact absurd h n4
              · exact absurd h n5
              · exact h
            have := hC.le x hx h3 (.inr h)
            rw [C.at_ge (by decide : (3 : Int) ≤ ownP 8), hC.two 8 b a (by decide)]
            show C.at_ b 5 + C.sign 8 + C.at_ a 5 ≤ _
            omega
theorem cost_rd {C : Cost} {xs : List Lx} (he : LxEnds xs) (hC : CostOk C xs) : ∀ (n : Nat) (lv : Lv) (k : Nat) (e : Ex) (k' : Nat), k < xs.length → rd xs n lv k = some (.ok e k') → C.at_ e lv.str + C.pre xs k ≤ C.pre xs k' + lv.spent C := by
  intro n
  induction n with
  | zero => intro lv k e k' _ h; cases h
  | succ n ih =>
    intro lv k e k' hk h
    have h2 : ∀ op a b, (op = 3 ∨ op = 4 ∨ op = 5 ∨ op = 6 ∨ op = 7 ∨ op = 8 ∨ op = 10 ∨ op = 11) → C.at_ (two op a b) (ownP op) = C.at_ a (firstP op) + C.sign op + C.at_ b (secondP op) := fun op a b ho => by
      rw [C.at_ge (by rw [own_two]; exact Int.le_refl _), hC.two op a b ho]
    cases lv with
    | expr =>
      rw [rd] at h
      obtain ⟨e1, k1, h1, h3⟩ := andThen_ok h
      have a1 := ih _ _ _ _ hk h1
      have a2 := ih _ _ _ _ (rd_in he _ _ _ _ _ hk h1).2 h3
      have a3 := C.at_mono e1 (show (1 : Int) ≤ 2 by decide)
      simp only [Lv.str, Lv.spent] at a1 a2 ⊢
      omega
    | orL e0 =>
      rw [rd] at h
      split at h
      · rename_i hw
        obtain ⟨e1, k1, h1, h3⟩ := andThen_ok h
        have hk1 := isWd_in he hk hw
        have a1 := ih _ _ _ _ hk1 h1
        have a2 := ih _ _ _ _ (rd_in he _ _ _ _ _ hk1 h1).2 h3
        have a3 := h2 11 e0 e1 (by decide)
        have a4 := C.pre_succ hk
        have a5 := hC.or_ _ (mem_at hk) hw
        have e1' : ownP 11 = 1 := rfl
        have e2' : firstP 11 = 1 := rfl
        have e3' : secondP 11 = 2 := rfl
        rw [e1', e2', e3'] at a3
        simp only [Lv.str, Lv.spent] at a1 a2 ⊢
        omega
      · injection h with h; injection h with h h'; subst h h'; simp only [Lv.str, Lv.spent]; omega
    | conj =>
      rw [rd] at h
      obtain ⟨e1, k1, h1, h3⟩ := andThen_ok h
      have a1 := ih _ _ _ _ hk h1
      have a2 := ih _ _ _ _ (rd_in he _ _ _ _ _ hk h1).2 h3
      have a3 := C.at_mono e1 (show (2 : Int) ≤ 3 by decide)
      simp only [Lv.str, Lv.spent] at a1 a2 ⊢
      omega
    | andL e0 =>
      rw [rd] at h
      split at h
      · rename_i hw
        obtain ⟨e1, k1, h1, h3⟩ := andThen_ok h
        have hk1 := isWd_in he hk hw
        have a1 := ih _ _ _ _ hk1 h1
        have a2 := ih _ _ _ _ (rd_in he _ _ _ _ _ hk1 h1).2 h3
        have a3 := h2 10 e0 e1 (by decide)
        have a4 := C.pre_succ hk
        have a5 := hC.and_ _ (mem_at hk) hw
        have e1' : ownP 10 = 2 := rfl
        have e2' : firstP 10 = 2 := rfl
        have e3' : secondP 10 = 3 := rfl
        rw [e1', e2', e3'] at a3
        simp only [Lv.str, Lv.spent] at a1 a2 ⊢
        omega
      · injection h with h; injection h with h h'; subst h h'; simp only [Lv.str, Lv.spent]; omega
    | neg =>
      rw [rd] at h
      split at h
      · rename_i hw
        obtain ⟨e1, k1, h1, h3⟩ := andThen_ok h
        have hk1 := isWd_in he hk hw
        have a1 := ih _ _ _ _ hk1 h1
        have a4 := C.pre_succ hk
        have a5 := hC.not_ _ (mem_at hk) hw
        injection h3 with h3; injection h3 with h3 h4; subst h3 h4
        have a6 : C.at_ (one 9 e1) 3 = C.sign 9 + C.at_ e1 3 := by rw [C.at_ge (by decide : (3 : Int) ≤ ownP 9), hC.one]
        simp only [Lv.str, Lv.spent] at a1 ⊢
        omega
      · exact ih .comp _ _ _ hk h
    | comp =>
      rw [rd] at h
      obtain ⟨e1, k1, h1, h3⟩ := andThen_ok h
      have a1 := ih _ _ _ _ hk h1
      have hk1 := (rd_in he _ _ _ _ _ hk h1).2
      split at h3
      · rename_i hw
        have hk2 : k1 + 1 < xs.length := lxEnds_next he hk1 (by rw [hw.1]; decide)
        obtain ⟨e2, k2, h5, h6⟩ := andThen_ok h3
        injection h6 with h6; injection h6 with h6 h7; subst h6 h7
        have a2 := ih _ _ _ _ hk2 h5
        have a4 := C.pre_succ hk1
        have a5 := cost_cmp hC (mem_at hk1) hw.1 hw.2 e1 e2
        simp only [Lv.str, Lv.spent] at a1 a2 ⊢
        omega
      · injection h3 with h3; injection h3 with h3 h4; subst h3 h4
        have a3 := C.at_mono e1 (show (3 : Int) ≤ 5 by decide)
        simp only [Lv.str, Lv.spent] at a1 ⊢
        omega
    | sum =>
      rw [rd] at h
      obtain ⟨e1, k1, h1, h3⟩ := andThen_ok h
      have a1 := ih _ _ _ _ hk h1
      have a2 := ih _ _ _ _ (rd_in he _ _ _ _ _ hk h1).2 h3
      have a3 := C.at_mono e1 (show (5 : Int) ≤ 6 by decide)
      simp only [Lv.str, Lv.spent] at a1 a2 ⊢
      omega
    | addL e0 =>
      rw [rd] at h
      split at h
      · rename_i hw
        obtain ⟨e1, k1, h1, h3⟩ := andThen_ok h
        have hk1 := isMk_in he hk hw
        have a1 := ih _ _ _ _ hk1 h1
        have a2 := ih _ _ _ _ (rd_in he _ _ _ _ _ hk1 h1).2 h3
        have a3 := h2 3 e0 e1 (by decide)
        have a4 := C.pre_succ hk
        have a5 := hC.plus _ (mem_at hk) hw
        have e1' : ownP 3 = 5 := rfl
        have e2' : firstP 3 = 5 := rfl
        have e3' : secondP 3 = 6 := rfl
        rw [e1', e2', e3'] at a3
        simp only [Lv.str, Lv.spent] at a1 a2 ⊢
        omega
      · split at h
        · rename_i hw
          obtain ⟨e1, k1, h1, h3⟩ := andThen_ok h
          have hk1 := isMk_in he hk hw
          have a1 := ih _ _ _ _ hk1 h1
          have a2 := ih _ _ _ _ (rd_in he _ _ _ _ _ hk1 h1).2 h3
          have a3 := h2 4 e0 e1 (by decide)
          have a4 := C.pre_succ hk
          have a5 := hC.minus _ (mem_at hk) hw
          have e1' : ownP 4 = 5 := rfl
          have e2' : firstP 4 = 5 := rfl
          have e3' : secondP 4 = 6 := rfl
          rw [e1', e2', e3'] at a3
          simp only [Lv.str, Lv.spent] at a1 a2 ⊢
          omega
        · injection h with h; injection h with h h'; subst h h'; simp only [Lv.str, Lv.spent]; omega
    | term =>
      rw [rd] at h
      obtain ⟨e1, k1, h1, h3⟩ := andThen_ok h
      have a1 := ih _ _ _ _ hk h1
      have a2 := ih _ _ _ _ (rd_in he _ _ _ _ _ hk h1).2 h3
      have a3 := C.at_mono e1 (show (6 : Int) ≤ 7 by decide)
      simp only [Lv.str, Lv.spent] at a1 a2 ⊢
      omega
    | mulL e0 =>
      rw [rd] at h
      split at h
      · rename_i hw
        obtain ⟨e1, k1, h1, h3⟩ := andThen_ok h
        have hk1 := isMk_in he hk hw
        have a1 := ih _ _ _ _ hk1 h1
        have a2 := ih _ _ _ _ (rd_in he _ _ _ _ _ hk1 h1).2 h3
        have a3 := h2 5 e0 e1 (by decide)
        have a4 := C.pre_succ hk
        have a5 := hC.times _ (mem_at hk) hw
        have e1' : ownP 5 = 6 := rfl
        have e2' : firstP 5 = 6 := rfl
        have e3' : secondP 5 = 7 := rfl
        rw [e1', e2', e3'] at a3
        simp only [Lv.str, Lv.spent] at a1 a2 ⊢
        omega
      · injection h with h; injection h with h h'; subst h h'; simp only [Lv.str, Lv.spent]; omega
    | fact =>
      have a4 := C.pre_succ hk
      rw [rd] at h
      split at h
      · rename_i hw
        injection h with h; injection h with h h'; subst h h'
        have a5 := hC.num _ (mem_at hk) hw
        rw [C.at_ge (by decide : (7 : Int) ≤ ownP 1)]
        simp only [Lv.spent]
        omega
      · split at h
        · rename_i hw
          split at h
          · injection h with h; injection h with h h'; subst h h'
            have a5 := hC.name _ (mem_at hk) hw
            rw [C.at_ge (by decide : (7 : Int) ≤ ownP 2)]
            simp only [Lv.spent]
            omega
          · injection h with h; cases h
        · split at h
          · rename_i hw
            have hk1 := isMk_in he hk hw
            have a6 := C.pre_succ hk1
            rw [show k + 1 + 1 = k + 2 from rfl] at a6
            split at h
            · rename_i hn
              injection h with h; injection h with h h'; subst h h'
              have a5 := hC.neg _ (mem_at hk) _ (mem_at hk1) hw hn.1
              rw [C.at_ge (by decide : (7 : Int) ≤ ownP 1)]
              simp only [Lv.spent]
              omega
            · injection h with h; cases h
          · split at h
            · rename_i hw
              have hk1 := isMk_in he hk hw
              obtain ⟨e1, k1, h1, h3⟩ := andThen_ok h
              split at h3
              · rename_i hp
                injection h3 with h3; injection h3 with h3 h4; subst h3 h4
                have a1 := ih _ _ _ _ hk1 h1
                have hk2 := (rd_in he _ _ _ _ _ hk1 h1).2
                have a6 := C.pre_succ hk2
                have a5 := hC.paren _ (mem_at hk) _ (mem_at hk2) hw hp
                have a7 := C.at_le e1 7
                have a8 : C.cost e1 ≤ C.at_ e1 1 := Nat.le_add_right _ _
                simp only [Lv.str, Lv.spent] at a1 ⊢
                omega
              · injection h3 with h3; cases h3
            · injection h with h; cases h

end Saw

namespace Saw

/-! ### Lexemes -/
def tokC : Cost where
  cost e := (tkE e).2.length
  sign _ := 1
  par := 2
  lex x := if x.kind = 3 ∧ x.text = [33, 61] then 2 else 1
theorem tok_at (e : Ex) (least : Int) : tokC.at_ e least = (withinT (tkE e) least).length := by
  show (tkE e).2.length + (if ownP e.op < least then 2 else 0) = _
  have h : (tkE e).1 = ownP e.op := rfl
  rw [withinT, h]
  split
  · simp only [List.length_cons, List.length_append, List.length_nil]
  · rfl
theorem tok_lex (x : Lx) : 1 ≤ tokC.lex x := by
  show 1 ≤ (if _ then _ else _)
  split <;> decide
theorem tok_ok {xs : List Lx} (hn : ∀ x ∈ xs, 0 ≤ x.num) : CostOk tokC xs where
  num x hx _ := by
    have h1 : tokC.cost ⟨1, x.num, [], .nil⟩ = 1 := by
      show (tkE _).2.length = 1
      rw [tkE_num rfl]
      have := hn x hx
      simp only
      rw [if_neg (by omega)]
      rfl
    rw [h1]; exact tok_lex x
  neg x _ y _ _ _ := by
    have h1 : tokC.cost ⟨1, -y.num, [], .nil⟩ ≤ 2 := by
      show (tkE _).2.length ≤ 2
      rw [tkE_num rfl]
      simp only
      split <;> (simp only [List.length_cons, List.length_nil]; omega)
    have := tok_lex x
    have := tok_lex y
    omega
  name x _ _ := tok_lex x
  one a := by
    rw [tok_at]
    show (tkE (one 9 a)).2.length = 1 + _
    rw [tkE_not]
    simp only [List.length_cons]; omega
  two op a b ho := by
    rw [tok_at, tok_at]
    show (tkE (two op a b)).2.length = _ + 1 + _
    rw [tkE_two ho]
    simp only [List.length_cons, List.length_append]; omega
  paren x _ y _ _ _ := by
    have := tok_lex x
    have := tok_lex y
    show 2 ≤ _
    omega
  or_ x _ _ := tok_lex x
  and_ x _ _ := tok_lex x
  not_ x _ _ := tok_lex x
  plus x _ _ := tok_lex x
  minus x _ _ := tok_lex x
  times x _ _ := tok_lex x
  eq x _ _ _ := tok_lex x
  ne x _ h3 h := by
    show 1 + 1 ≤ (if _ then _ else _)
    rw [if_pos ⟨h3, h⟩]
    exact Nat.le_refl _
  lt x _ _ _ := tok_lex x
  le x _ _ _ := tok_lex x
theorem pre_one {xs : List Lx} (h : ∀ x ∈ xs, ¬ (x.kind = 3 ∧ x.text = [33, 61])) : ∀ k, tokC.pre xs k ≤ k
  | 0 => by rw [Cost.pre, List.take_zero]; exact Nat.le_refl _
  | k + 1 => by
    have ih := pre_one h k
    by_cases hk : k < xs.length
    · rw [tokC.pre_succ hk]
      have : tokC.lex (lxAt xs k) = 1 := if_neg (h _ (mem_at hk))
      omega
    · have h1 : tokC.pre xs (k + 1) = tokC.pre xs k := by rw [Cost.pre, Cost.pre, List.take_of_length_le (by omega), List.take_of_length_le (by omega)]
      omega
/-- The text of what was read has no more lexemes than the text from which it was read. -/
theorem short_law {s : List UInt8} {x : Ex} {a : Int} (h : parseX s = (x, 0, a)) (hne : ∀ y ∈ (scanP s).1, ¬ (y.kind = 3 ∧ y.text = [33, 61])) : (scanP (exprP x)).2.1 = 0 ∧ 1 < (scanP (exprP x)).1.length ∧ (scanP (exprP x)).1.length ≤ (scanP s).1.length := by
  obtain ⟨_, hw, xs, k, hs, ⟨n, hr⟩, hk⟩ := parseX_ok h
  have hn := scan_nums hs
  have h1 := cost_rd hn.1 (tok_ok fun x hx => (hn.2.1 x hx).1) n .expr 0 x k hn.2.2 hr
  rw [hs] at hne
  have h2 : tokC.pre xs k ≤ k := pre_one hne k
  have hl := lexE_of (well_split hw).1 [] [] rfl Lexes.nil
  rw [List.append_nil, List.append_nil] at hl
  have h8 := tx_len8 hw
  obtain ⟨ys, e1, e2, _⟩ := lexes_scan hl (by omega)
  have he : exprP x = (txE x).2 := by rw [exprP, if_pos hw]
  have h3 : ys.length = (tkE x).2.length := by rw [← e2, List.length_map]
  have h4 : (tkE x).2.length ≤ tokC.at_ x 1 := Nat.le_add_right _ _
  have h5 : 0 < (tkE x).2.length := by
    obtain ⟨t, r, ht, _⟩ := (cl_all (well_split hw).1).hd 7 (.inl (by decide))
    cases hz : (tkE x).2 with
    | cons a b => simp
    | nil =>
      exfalso
      have hq := (cl_all (well_split hw).1).c1 [lxEnd 0] 0 (lxEnd 0) [] (.ok x 0) (by rw [hz]; exact ⟨[], rfl⟩) end1_end (by rw [hz]; exact Rds.orStop rfl)
      obtain ⟨m, hq⟩ := hq
      have := rd_in (xs := [lxEnd 0]) (endsP (ys := []) (p := 0) (by simp)) m .expr 0 x 0 (by decide) hq
      simp only [Lv.step] at this
      omega
  have h0 : tokC.pre xs 0 = 0 := by rw [Cost.pre, List.take_zero]; rfl
  simp only [Lv.str, Lv.spent] at h1
  rw [he, e1, hs]
  simp only [List.length_append, List.length_singleton]
  refine ⟨trivial, by omega, by omega⟩

/-! ### Bytes -/
def byteC : Cost where
  cost e := (txE e).2.length
  sign op := if op = 9 then 4 else (signP op).length + 2
  par := 2
  lex x := 4 * x.text.length
theorem byte_at (e : Ex) (least : Int) : byteC.at_ e least = (within (txE e) least).length := by
  show (txE e).2.length + (if ownP e.op < least then 2 else 0) = _
  have h : (txE e).1 = ownP e.op := rfl
  rw [within, h]
  split
  · simp only [List.length_cons, List.length_append, List.length_nil]; omega
  · rfl
theorem lxIs_text {x : Lx} {kind : Int} {t : List UInt8} (h : lxIs x kind t = true) : x.text = t := by
  rw [lxIs, Bool.and_eq_true, beq_iff_eq, beq_iff_eq] at h; exact h.2
theorem byte_lex {x : Lx} {t : List UInt8} (h : x.text = t) : byteC.lex x = 4 * t.length := by rw [← h]; rfl
theorem itoa_pos (n : Int) : 0 < (Go.Lib.itoa n).length := by
  have h := (dec_dig n.natAbs n.natAbs (Nat.le_refl _)).2.2.1
  have h2 : 0 < (Go.Lib.decDigits n.natAbs).length := List.length_pos_iff.2 h
  rw [Go.Lib.itoa]
  split
  · simp
  · rw [show n.toNat = n.natAbs by omega] at *; exact h2
theorem itoa_neg_len (n : Int) (h0 : 0 ≤ n) : (Go.Lib.itoa (-n)).length ≤ (Go.Lib.itoa n).length + 1 := by
  by_cases h : n = 0
  · subst h; exact Nat.le_succ _
  · rw [Go.Lib.itoa, if_pos (by omega), Go.Lib.itoa, if_neg (by omega), show (-n).natAbs = n.toNat by omega]
    simp
theorem byte_ok {xs : List Lx} (hx : ∀ x ∈ xs, x.kind ≠ 0 → lexOK x) : CostOk byteC xs where
  num x hm h2 := by
    have hc := lexOK_canon (hx x hm (by rw [h2]; decide))
    show (txE _).2.length ≤ 4 * x.text.length
    rw [txE_num rfl]
    rcases hc with h | h | h
    · rw [h.1] at h2; cases h2
    · rw [h.2.1]; simp only; omega
    · rw [h.1] at h2; cases h2
  neg x hm y hy hs h2 := by
    have hc := lexOK_canon (hx y hy (by rw [h2]; decide))
    rw [byte_lex (lxIs_text hs)]
    show (txE _).2.length ≤ 4 * 1 + 4 * y.text.length
    rw [txE_num rfl]
    rcases hc with h | h | h
    · rw [h.1] at h2; cases h2
    · rw [h.2.1]
      have := itoa_neg_len y.num h.2.2
      simp only
      omega
    · rw [h.1] at h2; cases h2
  name x _ _ := by
    show (txE _).2.length ≤ 4 * x.text.length
    rw [txE_name rfl]
    simp only; omega
  one a := by
    rw [byte_at]
    show (txE (one 9 a)).2.length = 4 + _
    rw [txE_not]
    simp only [List.length_append, notW, List.length_cons, List.length_nil]
  two op a b ho := by
    rw [byte_at, byte_at]
    show (txE (two op a b)).2.length = _ + (if op = 9 then 4 else (signP op).length + 2) + _
    rw [txE_two ho, if_neg (by omega)]
    simp only [List.length_append, List.length_cons, List.length_nil]; omega
  paren x _ y _ h1 h2 := by
    rw [byte_lex (lxIs_text h1)]
    show 2 ≤ 4 * 1 + _
    omega
  or_ x _ h := by rw [byte_lex (lxIs_text h)]; decide
  and_ x _ h := by rw [byte_lex (lxIs_text h)]; decide
  not_ x _ h := by rw [byte_lex (lxIs_text h)]; decide
  plus x _ h := by rw [byte_lex (lxIs_text h)]; decide
  minus x _ h := by rw [byte_lex (lxIs_text h)]; decide
  times x _ h := by rw [byte_lex (lxIs_text h)]; decide
  eq x _ _ h := by rw [byte_lex h]; decide
  ne x _ _ h := by rw [byte_lex h]; decide
  lt x _ _ h := by rcases h with h | h <;> (rw [byte_lex h]; decide)
  le x _ _ h := by rcases h with h | h <;> (rw [byte_lex h]; decide)
theorem rule_cost {xs : List Lx} (hx : LxEnds xs) (hc : CanonP xs) (hn : ∀ x ∈ xs, 0 ≤ x.num ∧ x.num ≤ 1099511627776) {k k' : Nat} (hk : k < xs.length) {r : Rl} (h : ruleE xs k = .inl (r, k')) : k' < xs.length ∧ (ruleText r).length + byteC.pre xs k ≤ byteC.pre xs k' := by
  rw [ruleE] at h
  split at h
  · cases h
  · rename_i hg0
    split at h
    · cases h
    · split at h
      · cases h
      · rename_i hg
        split at h
        · cases h
        · rename_i hw
          have hg1 : isWd xs k gradeW = true := by simpa using hg0
          have hw1 : isWd xs (k + 2) whenW = true := by simpa using hw
          have hk1 := isWd_in hx hk hg1
          have hg2 : (lxAt xs (k + 1)).kind = 2 := Decidable.not_not.1 hg
          have hk2 : k + 2 < xs.length := lxEnds_next hx hk1 (by rw [hg2]; decide)
          have hk3 : k + 3 < xs.length := isWd_in hx hk2 hw1
          have p0 := byteC.pre_succ hk
          have p1 := byteC.pre_succ hk1
          have p2 := byteC.pre_succ hk2
          rw [byte_lex (lxIs_text hg1)] at p0
          rw [byte_lex (lxIs_text hw1)] at p2
          have hcn := lexOK_canon (hc.at_ (k := k + 1) (by rw [hg2]; decide))
          have hnum : (lxAt xs (k + 1)).text = Go.Lib.itoa (lxAt xs (k + 1)).num := by
            rcases hcn with h9 | h9 | h9
            · rw [h9.1] at hg2; cases hg2
            · exact h9.2.1
            · rw [h9.1] at hg2; cases hg2
          rw [byte_lex hnum] at p1
          have hip := itoa_pos (lxAt xs (k + 1)).num
          rcases whole_cases hx hk3 with ⟨e, k2, ⟨m, h1⟩, h2, h3, h4, h5⟩ | ⟨e, k2, h1, h2, h3, h4, h5⟩ | ⟨er', off', h1, h3⟩
          · rw [h3] at h
            simp only at h
            split at h
            · cases h
            · rename_i hsm
              injection h with h
              injection h with h6 h7
              have hs1 : isMk xs k2 [59] = true := by simpa using hsm
              have p3 := byteC.pre_succ h5
              rw [byte_lex (lxIs_text hs1)] at p3
              have hco := cost_rd hx (byte_ok hc) m .expr (k + 3) e k2 hk3 h1
              have hw9 : wellP e = true := by rw [wellP, rd_formed hn _ _ _ _ _ rfl h1]; simpa using h2
              have he : (exprP e).length = byteC.cost e := by rw [exprP, if_pos hw9]; rfl
              have hle : byteC.cost e ≤ byteC.at_ e 1 := Nat.le_add_right _ _
              subst h6
              rw [← h7]
              refine ⟨isMk_in hx h5 hs1, ?_⟩
              simp only [Lv.str, Lv.spent] at hco
              simp only [ruleText, List.length_append, he, gradeW, whenW, List.length_cons, List.length_nil] at p0 p2 p3 ⊢
              rw [show k + 1 + 1 = k + 2 from rfl] at p1
              rw [show k + 2 + 1 = k + 3 from rfl] at p2
              omega
          · rw [h3] at h; cases h
          · rw [h3] at h; cases h
theorem rules_cost {xs : List Lx} (hx : LxEnds xs) (hc : CanonP xs) (hn : ∀ x ∈ xs, 0 ≤ x.num ∧ x.num ≤ 1099511627776) : ∀ (n k : Nat) (acc l : List Rl) (a : Int), k < xs.length → (acc.flatMap ruleText).length ≤ byteC.pre xs k → rulesE xs n k acc = (l, 0, a) → (l.flatMap ruleText).length ≤ byteC.pre xs xs.length := by
  have hmono : ∀ k, byteC.pre xs k ≤ byteC.pre xs xs.length := fun k => by
    rw [Cost.pre, Cost.pre, List.take_length]
    conv => rhs; rw [← List.take_append_drop k xs, List.map_append, List.sum_append]
    exact Nat.le_add_right _ _
  intro n
  induction n with
  | zero => intro k acc l a _ ha h; rw [rulesE] at h; injection h with h _; subst h; exact Nat.le_trans ha (hmono k)
  | succ n ih =>
    intro k acc l a hk ha h
    rw [rulesE] at h
    split at h
    · injection h with h _; subst h; exact Nat.le_trans ha (hmono k)
    · split at h
      · injection h with _ h; injection h with h _; cases h
      · split at h
        · rename_i er off hr
          injection h with h _
          subst h
          exact Nat.zero_le _
        · rename_i r k' hr
          obtain ⟨h1, h2⟩ := rule_cost hx hc hn hk hr
          refine ih k' (acc ++ [r]) l a h1 ?_ h
          rw [List.flatMap_append, List.length_append, List.flatMap_cons, List.flatMap_nil, List.append_nil]
          omega
theorem sum_texts : ∀ xs : List Lx, (xs.map byteC.lex).sum = 4 * (xs.map (·.text)).flatten.length
  | [] => rfl
  | x :: r => by
    rw [List.map_cons, List.sum_cons, sum_texts r, List.map_cons, List.flatten_cons, List.length_append]
    show 4 * x.text.length + _ = _
    omega
/-- A table of a text of at most 2000 bytes has a text, which is read as the same. -/
theorem table_again {s : List UInt8} {l : List Rl} {a : Int} (h : parseR s = (l, 0, a)) (hs : s.length ≤ 2000) : formatR l = l.flatMap ruleText ∧ parseR (formatR l) = (l, 0, 0) := by
  obtain ⟨_, h1, h2, xs, h3, h4⟩ := parseR_ok h
  have hn := scan_nums h3
  obtain ⟨ys, hxs, _, hok, _⟩ := scanP_can h3
  have hcan : CanonP xs := by rw [hxs]; exact canonP_of hok
  have h5 := rules_cost hn.1 hcan hn.2.1 _ 0 [] l 0 hn.2.2 (Nat.zero_le _) h4
  have h6 := scanS_lexOK s.length s 0 (Nat.le_refl _) (by rw [← scanP_eq s (by omega), h3])
  obtain ⟨zs, hz, _, _, hz4⟩ := h6
  rw [← scanP_eq s (by omega), h3] at hz
  simp only at hz
  have h7 : byteC.pre xs xs.length = 4 * (zs.map (·.text)).flatten.length := by
    rw [Cost.pre, List.take_length, hz, List.map_append, List.sum_append, sum_texts]
    rfl
  have h8 : (l.flatMap ruleText).length ≤ 8000 := by omega
  have h9 : formatR l = l.flatMap ruleText := by
    rw [formatR, if_pos ⟨h1, List.all_eq_true.2 h2, h8⟩]
  exact ⟨h9, by rw [h9]; exact parse_table h2 h1 h8⟩

end Saw

namespace Saw

/-! ### Reading is local -/
theorem rd_local {xs ys : List Lx} {c m : Nat} (he : LxEnds ys) (hlen : ys.length = m + 1) (hl : ∀ i, i < m → (lxAt xs (c + i)).kind = (lxAt ys i).kind ∧ (lxAt xs (c + i)).text = (lxAt ys i).text ∧ (lxAt xs (c + i)).num = (lxAt ys i).num)
    (hend : (lxAt ys m).kind = 0) (hx : (lxAt xs (c + m)).kind = 3 ∧ (lxAt xs (c + m)).text = [41]) : ∀ (n : Nat) (lv : Lv) (j : Nat) (e : Ex) (j' : Nat), j ≤ m → rd ys n lv j = some (.ok e j') → rd xs n lv (c + j) = some (.ok e (c + j')) := by
  have A : ∀ i w, i ≤ m → isWd xs (c + i) w = isWd ys i w := fun i w hi => by
    by_cases h : i = m
    · subst h
      rw [isWd, isWd, lxIs, lxIs, hx.1, hend]
      rfl
    · obtain ⟨h1, h2, _⟩ := hl i (by omega)
      rw [isWd, isWd, lxIs, lxIs, h1, h2]
  have B : ∀ i w, i ≤ m → w ≠ [41] → isMk xs (c + i) w = isMk ys i w := fun i w hi hw => by
    by_cases h : i = m
    · subst h
      rw [isMk, isMk, lxIs, lxIs, hx.1, hx.2, hend]
      have : ([41] == w) = false := by rw [beq_eq_false_iff_ne]; exact fun h => hw h.symm
      rw [this]; rfl
    · obtain ⟨h1, h2, _⟩ := hl i (by omega)
      rw [isMk, isMk, lxIs, lxIs, h1, h2]
  have hin : ∀ {n lv j e j'}, j ≤ m → rd ys n lv j = some (.ok e j') → j' ≤ m := fun hj h => by
    have := (rd_in he _ _ _ _ _ (by omega) h).2
    omega
  have wd : ∀ {i w}, i ≤ m → isWd ys i w = true → i + 1 ≤ m := fun hi h => by
    have := isWd_in he (by omega) h
    omega
  have mk : ∀ {i w}, i ≤ m → isMk ys i w = true → i + 1 ≤ m := fun hi h => by
    have := isMk_in he (by omega) h
    omega
  intro n
  induction n with
  | zero => intro lv j e j' _ h; cases h
  | succ n ih =>
    intro lv j e j' hj h
    cases lv with
    | expr =>
      rw [rd] at h ⊢
      obtain ⟨e1, k1, h1, h2⟩ := andThen_ok h
      rw [ih _ _ _ _ hj h1]
      exact ih _ _ _ _ (hin hj h1) h2
    | conj =>
      rw [rd] at h ⊢
      obtain ⟨e1, k1, h1, h2⟩ := andThen_ok h
      rw [ih _ _ _ _ hj h1]
      exact ih _ _ _ _ (hin hj h1) h2
    | sum =>
      rw [rd] at h ⊢
      obtain ⟨e1, k1, h1, h2⟩ := andThen_ok h
      rw [ih _ _ _ _ hj h1]
      exact ih _ _ _ _ (hin hj h1) h2
    | term =>
      rw [rd] at h ⊢
      obtain ⟨e1, k1, h1, h2⟩ := andThen_ok h
      rw [ih _ _ _ _ hj h1]
      exact ih _ _ _ _ (hin hj h1) h2
    | orL e0 =>
      rw [rd] at h ⊢
      rw [A j orW hj]
      split at h
      · rename_i hw
        rw [if_pos hw]
        obtain ⟨e1, k1, h1, h2⟩ := andThen_ok h
        have h3 := ih _ _ _ _ (wd hj hw) h1
        rw [show c + (j + 1) = c + j + 1 from rfl] at h3
        rw [h3]
        exact ih _ _ _ _ (hin (wd hj hw) h1) h2
      · rename_i hw
        rw [if_neg hw]
        injection h with h; injection h with h h'; subst h h'; rfl
    | andL e0 =>
      rw [rd] at h ⊢
      rw [A j andW hj]
      split at h
      · rename_i hw
        rw [if_pos hw]
        obtain ⟨e1, k1, h1, h2⟩ := andThen_ok h
        have h3 := ih _ _ _ _ (wd hj hw) h1
        rw [show c + (j + 1) = c + j + 1 from rfl] at h3
        rw [h3]
        exact ih _ _ _ _ (hin (wd hj hw) h1) h2
      · rename_i hw
        rw [if_neg hw]
        injection h with h; injection h with h h'; subst h h'; rfl
    | mulL e0 =>
      rw [rd] at h ⊢
      rw [B j [42] hj (by decide)]
      split at h
      · rename_i hw
        rw [if_pos hw]
        obtain ⟨e1, k1, h1, h2⟩ := andThen_ok h
        have h3 := ih _ _ _ _ (mk hj hw) h1
        rw [show c + (j + 1) = c + j + 1 from rfl] at h3
        rw [h3]
        exact ih _ _ _ _ (hin (mk hj hw) h1) h2
      · rename_i hw
        rw [if_neg hw]
        injection h with h; injection h with h h'; subst h h'; rfl
    | addL e0 =>
      rw [rd] at h ⊢
      rw [B j [43] hj (by decide), B j [45] hj (by decide)]
      split at h
      · rename_i hw
        rw [if_pos hw]
        obtain ⟨e1, k1, h1, h2⟩ := andThen_ok h
        have h3 := ih _ _ _ _ (mk hj hw) h1
        rw [show c + (j + 1) = c + j + 1 from rfl] at h3
        rw [h3]
        exact ih _ _ _ _ (hin (mk hj hw) h1) h2
      · rename_i hw0
        rw [if_neg hw0]
        split at h
        · rename_i hw
          rw [if_pos hw]
          obtain ⟨e1, k1, h1, h2⟩ := andThen_ok h
          have h3 := ih _ _ _ _ (mk hj hw) h1
          rw [show c + (j + 1) = c + j + 1 from rfl] at h3
          rw [h3]
          exact ih _ _ _ _ (hin (mk hj hw) h1) h2
        · rename_i hw
          rw [if_neg hw]
          injection h with h; injection h with h h'; subst h h'; rfl
    | neg =>
      rw [rd] at h ⊢
      rw [A j notW hj]
      split at h
      · rename_i hw
        rw [if_pos hw]
        obtain ⟨e1, k1, h1, h2⟩ := andThen_ok h
        have h3 := ih _ _ _ _ (wd hj hw) h1
        rw [show c + (j + 1) = c + j + 1 from rfl] at h3
        rw [h3]
        injection h2 with h2; injection h2 with h2 h2'; subst h2 h2'; rfl
      · rename_i hw
        rw [if_neg hw]
        exact ih _ _ _ _ hj h
    | comp =>
      rw [rd] at h ⊢
      obtain ⟨e1, k1, h1, h2⟩ := andThen_ok h
      rw [ih _ _ _ _ hj h1]
      have hk1 := hin hj h1
      show (if _ then _ else _) = _
      split at h2
      · rename_i hw
        have hk2 : k1 + 1 < ys.length := lxEnds_next he (by omega) (by rw [hw.1]; decide)
        obtain ⟨e2, k2, h3, h4⟩ := andThen_ok h2
        obtain ⟨q1, q2, _⟩ := hl k1 (by omega)
        rw [q1, q2, if_pos hw]
        have h5 := ih _ _ _ _ (by omega) h3
        rw [show c + (k1 + 1) = c + k1 + 1 from rfl] at h5
        rw [h5]
        injection h4 with h4; injection h4 with h4 h4'; subst h4 h4'; rfl
      · rename_i hw
        have hw' : ¬ ((lxAt xs (c + k1)).kind = 3 ∧ isCmp (lxAt xs (c + k1)).text = true) := by
          by_cases hq : k1 = m
          · subst hq; rw [hx.2]; exact fun h => absurd h.2 (by decide)
          · obtain ⟨q1, q2, _⟩ := hl k1 (by omega)
            rw [q1, q2]; exact hw
        rw [if_neg hw']
        injection h2 with h2; injection h2 with h2 h2'; subst h2 h2'; rfl
    | fact =>
      have hjm : j < m := by
        by_cases hq : j = m
        · exfalso
          subst hq
          rw [rd, if_neg (by rw [hend]; decide), if_neg (by rw [hend]; decide), if_neg (by rw [isMk, lxIs, hend]; simp), if_neg (by rw [isMk, lxIs, hend]; simp)] at h
          injection h with h; cases h
        · omega
      obtain ⟨q1, q2, q3⟩ := hl j hjm
      rw [rd] at h ⊢
      rw [q1, q2, q3, B j [45] hj (by decide), B j [40] hj (by decide)]
      split at h
      · rename_i hw
        rw [if_pos hw]
        injection h with h; injection h with h h'; subst h h'; rfl
      · rename_i hw
        rw [if_neg hw]
        split at h
        · rename_i hw
          rw [if_pos hw]
          split at h
          · rename_i hw
            rw [if_pos hw]
            injection h with h; injection h with h h'; subst h h'; rfl
          · injection h with h; cases h
        · rename_i hw
          rw [if_neg hw]
          split at h
          · rename_i hw
            rw [if_pos hw]
            split at h
            · rename_i hn
              have hj1 : j + 1 < m := by
                by_cases hq : j + 1 = m
                · rw [hq, hend] at hn; exact absurd hn.1 (by decide)
                · have := mk hj hw; omega
              obtain ⟨r1, _, r3⟩ := hl (j + 1) hj1
              rw [show c + (j + 1) = c + j + 1 from rfl] at r1 r3
              rw [r1, r3, if_pos hn]
              injection h with h; injection h with h h'; subst h h'; rfl
            · injection h with h; cases h
          · rename_i hw
            rw [if_neg hw]
            split at h
            · rename_i hw
              rw [if_pos hw]
              obtain ⟨e1, k1, h1, h2⟩ := andThen_ok h
              have h3 := ih _ _ _ _ (mk hj hw) h1
              rw [show c + (j + 1) = c + j + 1 from rfl] at h3
              rw [h3]
              show (if _ then _ else _) = _
              split at h2
              · rename_i hp
                have hk1 := hin (mk hj hw) h1
                have hk2 := mk hk1 hp
                obtain ⟨r1, r2, _⟩ := hl k1 (by omega)
                have hp' : isMk xs (c + k1) [41] = true := by rw [isMk, lxIs, r1, r2]; exact hp
                rw [if_pos hp']
                injection h2 with h2; injection h2 with h2 h2'; subst h2 h2'; rfl
              · injection h2 with h2; cases h2
            · injection h with h; cases h

/-! ### Texts in parentheses -/
theorem Lexes.line {l r : List UInt8} {a b : List Lx} (h : Lexes l a) (hr : Lexes r b) : Lexes (l ++ 10 :: r) (a ++ b) := fun pos => by
  obtain ⟨ys, h1, h2, h3⟩ := h pos
  obtain ⟨zs, g1, g2, g3⟩ := hr (pos + l.length + 1)
  refine ⟨ys ++ zs, ?_, by rw [List.map_append, h2, g2], fun y hy => (List.mem_append.1 hy).elim (h3 y) (g3 y)⟩
  rw [scanS_join l.length l r pos (Nat.le_refl _), h1, if_pos rfl, List.dropLast_concat, g1, lxAhead, if_pos rfl, List.append_assoc]
  have : pos + l.length + 1 + r.length = pos + ((l ++ 10 :: r).length : Nat) := by rw [List.length_append, List.length_cons]; omega
  rw [this]
theorem Lexes.of_scan {l : List UInt8} {ys : List Lx} (h : scanP l = (ys ++ [lxEnd l.length], 0, 0)) (hl : l.length ≤ 8000) (hk : ∀ y ∈ ys, y.kind ≠ 0) : Lexes l (ys.map Lx.bare) := fun pos => by
  rw [scanP_eq l hl] at h
  have hs := scanS_shift l.length l 0 pos (Nat.le_refl _)
  rw [h, if_pos rfl, Int.zero_add] at hs
  refine ⟨ys.map (lxSh pos), ?_, ?_, ?_⟩
  · rw [hs, List.map_append]
    have : [lxEnd (l.length : Int)].map (lxSh pos) = [lxEnd (pos + l.length)] := by
      simp only [List.map_cons, List.map_nil, lxSh, lxEnd, Int.add_comm]
    rw [this]
  · rw [List.map_map]; rfl
  · intro y hy
    obtain ⟨z, hz, rfl⟩ := List.mem_map.1 hy
    exact hk z hz
/-- A text between parentheses. -/
def inPar (s : List UInt8) : List UInt8 := [40] ++ (s ++ [10, 41])
theorem par_lex {s : List UInt8} {T : List Lx} (h : Lexes s T) {l : List UInt8} {ts : List Lx} (hl : Lexes l ts) : Lexes (inPar s ++ l) ((mkT [40] :: (T ++ [mkT [41]])) ++ ts) := by
  have h1 : Lexes ([41] ++ l) (mkT [41] :: ts) := Lexes.mark (by decide) (fun _ => mark_alone 41 _ (by decide)) hl
  have h2 := h.line h1
  have h3 : Lexes ([40] ++ (s ++ 10 :: ([41] ++ l))) (mkT [40] :: (T ++ mkT [41] :: ts)) := Lexes.mark (by decide) (fun _ => mark_alone 40 _ (by decide)) h2
  simpa [inPar] using h3
/-- A text's expression: its lexemes between parentheses are a factor. -/
theorem par_factor {s : List UInt8} {x : Ex} {a : Int} (h : parseX s = (x, 0, a)) : ∃ T, Lexes s T ∧ C7 x (mkT [40] :: (T ++ [mkT [41]])) ∧ wellP x = true ∧ s.length ≤ 8000 := by
  obtain ⟨_, hw, xs, k, hs, ⟨n, hr⟩, hk⟩ := parseX_ok h
  obtain ⟨ys, hxs, hkk, _, hl8⟩ := scanP_can hs
  subst hxs
  refine ⟨ys.map Lx.bare, Lexes.of_scan hs hl8 hkk, ?_, hw, hl8⟩
  have hkl : k = ys.length := by rw [List.length_append, List.length_singleton] at hk; omega
  subst hkl
  intro zs c ts ha
  have a0 : AtK zs c (mkT [40] :: (ys.map Lx.bare ++ mkT [41] :: ts)) := by simpa using ha
  have a1 := a0.step.2.2
  have a2 := a1.skip
  rw [List.length_map] at a2
  have hx := at_kt a2
  have h1 : isMk zs c [40] = true := by rw [isMk_at a0]; rfl
  have h2 : isMk zs (c + 1 + ys.length) [41] = true := by rw [isMk_at a2]; rfl
  have hloc := rd_local (xs := zs) (ys := ys ++ [lxEnd (s.length : Int)]) (c := c + 1) (m := ys.length) (endsP hkk) (by rw [List.length_append, List.length_singleton]) ?_ (by rw [lxAt, List.getElem?_append_right (Nat.le_refl _), Nat.sub_self]; rfl) ⟨hx.1, hx.2.1⟩ n .expr 0 x ys.length (Nat.zero_le _) hr
  · have h4 := Rds.paren h1 ⟨n, hloc⟩ h2
    rw [show c + (mkT [40] :: (ys.map Lx.bare ++ [mkT [41]])).length = c + 1 + ys.length + 1 by simp only [List.length_cons, List.length_append, List.length_map, List.length_nil]; omega]
    exact h4
  · intro i hi
    obtain ⟨r, hr9⟩ := a1
    have hi1 : (lxAt zs (c + 1 + i)).bare = (lxAt (ys ++ [lxEnd (s.length : Int)]) i).bare := by
      rw [← lxAt_drop, ← lxAt_bare, hr9, lxAt, lxAt, List.append_assoc, List.getElem?_append_left (by rw [List.length_map]; exact hi), List.getElem?_append_left hi, List.getElem?_map, List.getElem?_eq_getElem hi]
      rfl
    refine ⟨?_, ?_, ?_⟩
    · have := congrArg Lx.kind hi1; exact this
    · have := congrArg Lx.text hi1; exact this
    · have := congrArg Lx.num hi1; exact this

/-! ### Equal ways of writing -/
/-- What a text with one whole expression parses as. -/
def depthed (e : Ex) : Ex × Int := if 8 < e.depth then (Ex.zero, 28) else (e, 0)
def bothP (l : List UInt8) : Ex × Int := ((parseX l).1, (parseX l).2.1)
theorem both_toks {l : List UInt8} {T : List Lx} {e : Ex} (hl : Lexes l T) (h8 : l.length ≤ 8000) (h : C1 e T) : bothP l = depthed e := by
  obtain ⟨ys, h1, h2, h3⟩ := lexes_scan hl h8
  have ha := atK_whole (p := (l.length : Int)) h2
  have hr := h _ 0 (lxEnd 0) [] (.ok e (0 + T.length)) ha end1_end (Rds.orStop (by rw [isWd_at ha.skip]; rfl))
  have hx : LxEnds (ys ++ [lxEnd (l.length : Int)]) := endsP h3
  have hk : 0 < (ys ++ [lxEnd (l.length : Int)]).length := by rw [List.length_append, List.length_singleton]; omega
  have hkd : (lxAt (ys ++ [lxEnd (l.length : Int)]) (0 + T.length)).kind = 0 := (at_kt ha.skip).1
  rw [bothP, parseX, h1]
  simp only [ne_eq, not_true_eq_false, if_false]
  rw [depthed]
  by_cases hd : 8 < e.depth
  · have hw : wholeE (ys ++ [lxEnd (l.length : Int)]) 0 = .bad 28 (lxAt (ys ++ [lxEnd (l.length : Int)]) 0).off := by
      obtain ⟨n, hn⟩ := hr
      obtain ⟨r, hr⟩ := rd_total hx (12 * (ys ++ [lxEnd (l.length : Int)]).length + 8) .expr 0 hk (by simp only [Lv.rank]; omega)
      have := rd_uniq hr hn
      subst this
      rw [wholeE, hr]
      show (if _ then _ else _) = _
      rw [if_pos hd]
    rw [hw, if_pos hd]
  · rw [whole_ok hx hk hr (by omega), if_neg hd]
    simp only [hkd, if_pos]
def parT (T : List Lx) : List Lx := mkT [40] :: (T ++ [mkT [41]])
section
variable {A B : List Lx} {x y : Ex}
theorem c_cmp {m : List UInt8} (ha : C5 x A) (hb : C5 y B) (hm : isCmp m = true) : C4 (cmpE m x y) (A ++ mkT m :: B) := fun xs k t ts h he => by
  obtain ⟨a1, a2, a3⟩ := at_two h
  have hk := at_kt a2
  have hc : (lxAt xs (k + A.length)).kind = 3 ∧ isCmp (lxAt xs (k + A.length)).text = true := ⟨hk.1, by rw [hk.2.1]; exact hm⟩
  have hadd := end_add a3.skip he.2.1
  have hm6 : m = [61] ∨ m = [33, 61] ∨ m = [60] ∨ m = [60, 61] ∨ m = [62] ∨ m = [62, 61] := by
    rw [isCmp] at hm
    simp only [Bool.or_eq_true, beq_iff_eq] at hm
    rcases hm with ((((h | h) | h) | h) | h) | h <;> simp [h]
  have e5 : end5 (mkT m) := by rcases hm6 with rfl | rfl | rfl | rfl | rfl | rfl <;> rfl
  have eA : bAdd (mkT m) = false := by rcases hm6 with rfl | rfl | rfl | rfl | rfl | rfl <;> rfl
  have hadd2 := end_add a2 eA
  have h9 := Rds.compTwo (ha xs k _ _ _ a1 e5 (Rds.addStop hadd2.1 hadd2.2)) hc (hb xs _ t ts _ a3 he.1 (Rds.addStop hadd.1 hadd.2))
  rw [hk.2.1] at h9
  rw [len_two, show k + (A.length + 1 + B.length) = k + A.length + 1 + B.length by omega]
  exact h9
theorem c_sub (ha : C5 x A) (hb : C6 y B) : C5 (two 4 x y) (A ++ mkT [45] :: B) := fun xs k t ts r h he hr => by
  obtain ⟨a1, a2, a3⟩ := at_two h
  have hm : isMk xs (k + A.length) [45] = true := by rw [isMk_at a2]; rfl
  have hm0 : isMk xs (k + A.length) [43] = false := by rw [isMk_at a2]; rfl
  rw [len_two, show k + (A.length + 1 + B.length) = k + A.length + 1 + B.length by omega] at hr
  exact ha xs k _ _ r a1 rfl (Rds.minus hm0 hm (hb xs _ (t :: ts) _ a3 (Rds.mulStop (end_mul a3.skip he))) hr)
theorem c_or (ha : C2 x A) (hb : C2 y B) : C1 (two 11 x y) (A ++ nmT orW :: B) := fun xs k t ts r h he hr => by
  obtain ⟨a1, a2, a3⟩ := at_two h
  have hm : isWd xs (k + A.length) orW = true := by rw [isWd_at a2]; rfl
  rw [len_two, show k + (A.length + 1 + B.length) = k + A.length + 1 + B.length by omega] at hr
  exact Rds.expr (ha xs k _ _ _ a1 ⟨rfl, rfl, rfl⟩ (Rds.andStop (by rw [isWd_at a2]; rfl))) (Rds.orMore hm (hb xs _ t ts _ a3 he.1 (Rds.andStop (end_and a3.skip he.2))) hr)
theorem c_not {T : List Lx} (h : C3 x T) : C3 (one 9 x) (nmT notW :: T) := fun xs k t ts ha he => by
  have a1 := (show AtK xs k (nmT notW :: (T ++ t :: ts)) from ha).step.2.2
  have hm : isWd xs k notW = true := by rw [isWd_at (show AtK xs k (nmT notW :: (T ++ t :: ts)) from ha)]; rfl
  have h9 := Rds.negNot hm (h xs (k + 1) t ts a1 he)
  rw [List.length_cons, show k + (T.length + 1) = k + 1 + T.length by omega]
  exact h9
theorem c_up {x : Ex} {T : List Lx} (h : C4 x T) (hd : HD T) : C1 x T := lift1 (lift2 (lift3 h hd))
theorem hd_app {T U : List Lx} (h : HD T) : HD (T ++ U) := by obtain ⟨t, r, rfl, h0⟩ := h; exact ⟨t, r ++ U, rfl, h0⟩
end
/-- The six pairs of texts of the law. -/
theorem equal_law {s t : List UInt8} {x y : Ex} {a b : Int} (h1 : parseX s = (x, 0, a)) (h2 : parseX t = (y, 0, b)) (hs : s.length ≤ 1500) (ht : t.length ≤ 1500) :
    bothP (inPar s ++ [62] ++ inPar t) = depthed (two 7 y x) ∧ bothP (inPar t ++ [60] ++ inPar s) = depthed (two 7 y x) ∧
    bothP (inPar s ++ [62, 61] ++ inPar t) = depthed (two 8 y x) ∧ bothP (inPar t ++ [60, 61] ++ inPar s) = depthed (two 8 y x) ∧
    bothP (inPar s ++ [33, 61] ++ inPar t) = depthed (one 9 (two 6 x y)) ∧ bothP ([110, 111, 116, 32] ++ inPar s ++ [61] ++ inPar t) = depthed (one 9 (two 6 x y)) ∧
    bothP ([40] ++ inPar s ++ [45] ++ inPar t ++ [41]) = depthed (two 4 x y) ∧ bothP (inPar s ++ [45] ++ inPar t) = depthed (two 4 x y) ∧
    bothP (inPar s ++ [111, 114] ++ inPar t) = depthed (two 11 x y) ∧ bothP ([40] ++ inPar s ++ [111, 114] ++ inPar t ++ [41]) = depthed (two 11 x y) ∧
    bothP (inPar s) = (x, 0) ∧ bothP s = (x, 0) := by
  obtain ⟨S, ls, cs, ws, _⟩ := par_factor h1
  obtain ⟨T, lt, ct, wt, _⟩ := par_factor h2
  have hl : ∀ u : List UInt8, (inPar u).length = u.length + 3 := fun u => by simp only [inPar, List.length_append, List.length_cons, List.length_nil]; omega
  have lsn : Lexes (inPar s) (parT S) := by have := par_lex ls Lexes.nil; rwa [List.append_nil, List.append_nil] at this
  have ltn : Lexes (inPar t) (parT T) := by have := par_lex lt Lexes.nil; rwa [List.append_nil, List.append_nil] at this
  have cs : C7 x (parT S) := cs
  have ct : C7 y (parT T) := ct
  have s6 := lift6 cs
  have s5 := lift5 s6
  have s2 := lift2 (lift3 (lift4 s5) (hd_paren S))
  have t6 := lift6 ct
  have t5 := lift5 t6
  have t2 := lift2 (lift3 (lift4 t5) (hd_paren T))
  have hcmp : ∀ {u v : List UInt8} {U V : List Lx} {m : List UInt8}, Lexes u U → Lexes (inPar v) (parT V) → m ∈ marks → (m.length = 1 → isMarkP (m ++ [40]) = false) → Lexes (inPar u ++ m ++ inPar v) (parT U ++ mkT m :: parT V) := fun hu hv hm h1 => by
    rw [List.append_assoc]
    exact par_lex hu (Lexes.mark hm (fun hq => h1 hq) hv)
  have hor : ∀ {u v : List UInt8} {U V : List Lx}, Lexes u U → Lexes (inPar v ++ []) (parT V ++ []) → Lexes (inPar u ++ orW ++ inPar v) (parT U ++ nmT orW :: parT V) := fun hu hv => by
    rw [List.append_nil, List.append_nil] at hv
    rw [List.append_assoc]
    exact par_lex hu (Lexes.word (by rfl) rfl hv)
  refine ⟨?_, ?_, ?_, ?_, ?_, ?_, ?_, ?_, ?_, ?_, ?_, ?_⟩
  · exact both_toks (hcmp ls ltn (m := [62]) (by decide) (fun _ => by rfl)) (by simp only [List.length_append, hl, List.length_cons, List.length_nil]; omega) (c_up (c_cmp (m := [62]) s5 t5 rfl) (hd_app (hd_paren S)))
  · exact both_toks (hcmp lt lsn (m := [60]) (by decide) (fun _ => by rfl)) (by simp only [List.length_append, hl, List.length_cons, List.length_nil]; omega) (c_up (c_cmp (m := [60]) t5 s5 rfl) (hd_app (hd_paren T)))
  · exact both_toks (hcmp ls ltn (m := [62, 61]) (by decide) (fun h => by cases h)) (by simp only [List.length_append, hl, List.length_cons, List.length_nil]; omega) (c_up (c_cmp (m := [62, 61]) s5 t5 rfl) (hd_app (hd_paren S)))
  · exact both_toks (hcmp lt lsn (m := [60, 61]) (by decide) (fun h => by cases h)) (by simp only [List.length_append, hl, List.length_cons, List.length_nil]; omega) (c_up (c_cmp (m := [60, 61]) t5 s5 rfl) (hd_app (hd_paren T)))
  · exact both_toks (hcmp ls ltn (m := [33, 61]) (by decide) (fun h => by cases h)) (by simp only [List.length_append, hl, List.length_cons, List.length_nil]; omega) (c_up (c_cmp (m := [33, 61]) s5 t5 rfl) (hd_app (hd_paren S)))
  · have hlx : Lexes ([110, 111, 116, 32] ++ inPar s ++ [61] ++ inPar t) (nmT notW :: (parT S ++ mkT [61] :: parT T)) := by
      have h9 := hcmp ls ltn (m := [61]) (by decide) (fun _ => by rfl)
      have h10 : Lexes (notW ++ (32 :: (inPar s ++ [61] ++ inPar t))) (nmT notW :: (parT S ++ mkT [61] :: parT T)) := Lexes.word (by rfl) rfl (Lexes.blank (.inl rfl) h9)
      simpa [notW] using h10
    refine both_toks hlx (by simp only [List.length_append, hl, List.length_cons, List.length_nil]; omega) (lift1 (lift2 (c_not (lift3 (c_cmp (m := [61]) s5 t5 rfl) (hd_app (hd_paren S))))))
  · have hlx : Lexes ([40] ++ inPar s ++ [45] ++ inPar t ++ [41]) (mkT [40] :: ((parT S ++ mkT [45] :: parT T) ++ [mkT [41]])) := by
      have h9 : Lexes ([41] ++ []) [mkT [41]] := Lexes.mark (by decide) (fun _ => by rfl) Lexes.nil
      have h10 : Lexes ([40] ++ (inPar s ++ ([45] ++ (inPar t ++ ([41] ++ []))))) (mkT [40] :: (parT S ++ mkT [45] :: (parT T ++ [mkT [41]]))) := Lexes.mark (by decide) (fun _ => mark_alone 40 _ (by decide)) (par_lex ls (Lexes.mark (by decide) (fun _ => by rfl) (par_lex lt h9)))
      simpa using h10
    exact both_toks hlx (by simp only [List.length_append, hl, List.length_cons, List.length_nil]; omega) (c_up (lift4 (lift5 (lift6 (paren7 (c_up (lift4 (c_sub s5 t6)) (hd_app (hd_paren S))))))) (hd_paren _))
  · exact both_toks (hcmp ls ltn (m := [45]) (by decide) (fun _ => by rfl)) (by simp only [List.length_append, hl, List.length_cons, List.length_nil]; omega) (c_up (lift4 (c_sub s5 t6)) (hd_app (hd_paren S)))
  · exact both_toks (hor ls (by simpa using ltn)) (by simp only [List.length_append, hl, List.length_cons, List.length_nil]; omega) (c_or s2 t2)
  · have hlx : Lexes ([40] ++ inPar s ++ [111, 114] ++ inPar t ++ [41]) (mkT [40] :: ((parT S ++ nmT orW :: parT T) ++ [mkT [41]])) := by
      have h9 : Lexes ([41] ++ []) [mkT [41]] := Lexes.mark (by decide) (fun _ => by rfl) Lexes.nil
      have h10 : Lexes ([40] ++ (inPar s ++ (orW ++ (inPar t ++ ([41] ++ []))))) (mkT [40] :: (parT S ++ nmT orW :: (parT T ++ [mkT [41]]))) := Lexes.mark (by decide) (fun _ => mark_alone 40 _ (by decide)) (par_lex ls (Lexes.word (by rfl) rfl (par_lex lt h9)))
      simpa [orW] using h10
    exact both_toks hlx (by simp only [List.length_append, hl, List.length_cons, List.length_nil]; omega) (c_up (lift4 (lift5 (lift6 (paren7 (c_or s2 t2))))) (hd_paren _))
  · rw [both_toks lsn (by rw [hl]; omega) (c_up (lift4 s5) (hd_paren S)), depthed, if_neg (by have := (well_split ws).2; omega)]
  · rw [bothP, h1]

end Saw
