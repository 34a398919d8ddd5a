/-
  A range over a function whose iterator keeps memory of its own: the iterator names its blocks X, the loop's body leaves them alone.
-/
import Derived.RangeFuncFrom
import Derived.RangeFuncLeaves
import Derived.RangeFuncBox
import Derived.OwnWalkIn
import Derived.Deep.AppendLies
namespace Go.Proofs.YtbmcfodhjibooaaDoor
open Go Go.RowKit

section
variable {α : Type}
/-- The blocks of X, and what lies ahead of n₀, lie in W' as they lay in W. -/
def KeepX (n₀ : Nat) (X : Nat → Prop) (W W' : World) : Prop := Below n₀ W W' ∧ ∀ b, X b → W'.heap[b]? = W.heap[b]?
theorem KeepX.trans {n₀ : Nat} {X : Nat → Prop} {A B C : World} (h : KeepX n₀ X A B) (k : KeepX n₀ X B C) : KeepX n₀ X A C := ⟨h.1.trans k.1, fun b hb => (k.2 b hb).trans (h.2 b hb)⟩
theorem KeepX.turn {n₀ : Nat} {X : Nat → Prop} {W : World} {l : Nat} {o : Obj} (hn : n₀ ≤ l) (hl : l < W.heap.size) (hX : ∀ b, X b → b ≠ l) : KeepX n₀ X W (W.putObj l o) :=
  ⟨(Below.refl n₀ W).grown (grownBy_putObj' W l o) (by omega) (fun k e => by cases e; exact hn), fun b hb => World.putObj_heap_other (hX b hb)⟩
/-- J bears what an iterator does whose blocks are X: new blocks, of which some come to X; a writing into one of X. -/
def Bears (J : List α → (Nat → Prop) → World → Prop) : Prop :=
  ∀ pre (X X' : Nat → Prop) W W' row, J pre X W → W.grownBy W' row → (∀ r, row = some r → X r) → (∀ b, X' b → X b ∨ (W.heap.size ≤ b ∧ b < W'.heap.size)) → J pre X' W'
/-- The contract of an iterator with blocks of its own. -/
def SeqX (F : Fence) (n : Nat) (P : Program) (g : Nat) (lb : Array Value) (encs : α → Array Value) (n₀ : Nat) (X₀ : Nat → Prop) (L : List α) (w : World) : Prop :=
  ∀ (l : Nat) (J : List α → (Nat → Prop) → World → Prop) (Jx : List α → World → Prop) (W : World), Below w.heap.size w W → Bears J →
    (∀ pre X x W1, J pre X W1 → (∃ rest, L = pre ++ x :: rest) → YieldAt F (n - 1) P l (encs x) W1 fun e W' =>
      (e = .returned (.bool true) ∧ J (pre ++ [x]) X W' ∧ KeepX n₀ X W1 W') ∨ (e = .returned (.bool false) ∧ Jx (pre ++ [x]) W')) →
    J [] X₀ W →
    CallsIn F n P g (#[.func (.yield l) #[] #[]] ++ lb) W fun e W' => (∃ v, e = .returned v) ∧ ((∃ X, J L X W') ∨ (∃ pre, pre <+: L ∧ Jx pre W'))
/-- The caller's invariant names none of the iterator's blocks. -/
def OwnX (B : Nat) (I : List α → (Nat → Prop) → World → Prop) : Prop :=
  ∀ pre (X X' : Nat → Prop) W W' row, I pre X W → W.grownBy W' row → (∀ r, row = some r → X r ∨ (B ≤ r ∧ ∃ o : Obj, W.heap[r]? = some o ∧ o.isCells = false)) → (∀ b, X' b → X b ∨ W.heap.size ≤ b) → I pre X' W'
/-- How a round's body may be left. -/
def postX (n₀ : Nat) (X : Nat → Prop) (I : List α → (Nat → Prop) → World → Prop) (Ix : Code → List α → World → Prop) (xs : List α) (W : World) : Exit → Act → World → Prop
  | .normal, _, W' => KeepsOthers W W' ∧ KeepX n₀ X W W' ∧ I xs X W'
  | .ret, _, W' => KeepsOthers W W' ∧ Ix .ret xs W'
  | .exit id, _, W' => KeepsOthers W W' ∧ Ix (.exit id) xs W'
  | .goto t, _, W' => KeepsOthers W W' ∧ Ix (.goto t) xs W'
  | .panic _, _, _ => False
  | .outgrown, _, _ => False
/-- The loop's two blocks: its record and that of the deferred calls. -/
def Books (L D : Nat) (lp : Obj) (W : World) : Prop := W.heap[L]? = some lp ∧ W.heap[D]? = some (.deferred (some []))
theorem Books.grown {L D : Nat} {lp : Obj} {W W' : World} {row : Option Nat} (h : Books L D lp W) (hg : W.grownBy W' row) (hr : ∀ r, row = some r → r ≠ L ∧ r ≠ D) : Books L D lp W' :=
  ⟨(hg.block L (Array.getElem?_eq_some_iff.1 h.1).1 (fun e => (hr L e.symm).1 rfl)).trans h.1, (hg.block D (Array.getElem?_eq_some_iff.1 h.2).1 (fun e => (hr D e.symm).2 rfl)).trans h.2⟩
theorem Books.turn {L D : Nat} {lp lp' : Obj} {W : World} (h : Books L D lp W) (hne : D ≠ L) : Books L D lp' (W.putObj L lp') :=
  ⟨World.putObj_heap_same (Array.getElem?_eq_some_iff.1 h.1).1, (World.putObj_heap_other hne).trans h.2⟩
theorem Books.kept {L D : Nat} {lp : Obj} {W W' : World} (h : Books L D lp W) (hc : lp.isCells = false) (hk : KeepsOthers W W') : Books L D lp W' := ⟨hk.same _ _ h.1 hc, hk.same _ _ h.2 rfl⟩
theorem OwnX.turn {B : Nat} {I : List α → (Nat → Prop) → World → Prop} (h : OwnX B I) {pre : List α} {X : Nat → Prop} {W : World} {l : Nat} {o : Obj} (o' : Obj) (hs : I pre X W) (hB : B ≤ l) (hl : W.heap[l]? = some o) (ho : o.isCells = false) : I pre X (W.putObj l o') :=
  h pre X X W _ (some l) hs (grownBy_putObj' W l o') (fun r e => by cases e; exact .inr ⟨hB, o, hl, ho⟩) (fun b hb => .inl hb)

variable {F : Fence} {n : Nat} {P : Program}
/-- The statement 'for .. := range seq' over such an iterator. -/
theorem wpIn_rangeX {g : Operand} {ps : Array Tmp} {assign body : Code} {Q : Exit → Act → World → Prop} {a : Act} {w : World}
    (hro : F.round = none) (h1 : 1 ≤ n) {gf : Nat} {lb : Array Value} (hg : a.eval g = .func (.func gf) #[] lb) (hFg : F.fn gf) (eg : ∀ args w, (callFunc gf args).run P w = .ok (.enter gf args) w)
    {encs : α → Array Value} {n₀ : Nat} {X₀ : Nat → Prop} {L : List α} {w0 : World} (hseq : SeqX F (n - 1) P gf lb encs n₀ X₀ L w0)
    (hn₀ : n₀ ≤ w.heap.size) (hX₀ : ∀ b, X₀ b → b < w.heap.size) (hb0 : Below w0.heap.size w0 w) (hps : ∀ x, (encs x).size = ps.size)
    (I : List α → (Nat → Prop) → World → Prop) (Ix : Code → List α → World → Prop) (hI : OwnX w.heap.size I) (hIx : ∀ c, OwnFrom w.heap.size (Ix c)) (h0 : I [] X₀ w) (Ax : α → Act → World → Prop) (hAx : ∀ x a' W l o o', Ax x a' W → w.heap.size ≤ l → W.heap[l]? = some o → o.isCells = false → Ax x a' (W.putObj l o'))
    (hassign : ∀ (l : Nat) (pre : List α) (X : Nat → Prop) (x : α) (W : World), I pre X W → (∀ b, X b → b < W.heap.size) → (∃ rest, L = pre ++ x :: rest) → w.heap.size ≤ W.heap.size →
      assign.wpIn (F.inRound l) (n - 1 - 1) P (Exit.then (fun a' W' => W.grownBy W' none ∧ Ax x a' W') (fun _ _ _ => False)) { tmps := (ps.zip (encs x)).foldl (fun t (p, v) => t.setIfInBounds p v) a.tmps, defers := [] } W)
    (hbody : ∀ (l : Nat) (pre : List α) (X : Nat → Prop) (x : α) (a' : Act) (W : World), I pre X W → Ax x a' W → (∀ b, X b → b < W.heap.size) → (∃ rest, L = pre ++ x :: rest) → w.heap.size ≤ W.heap.size → body.wpIn (F.inRound l) (n - 1 - 1) P (postX n₀ X I Ix (pre ++ [x]) W) a' W)
    (hdone : ∀ (D : Nat) (X : Nat → Prop) (W : World), w.heap.size ≤ D → I L X W → W.heap[D]? = some (.deferred (some [])) → Q .normal { a with defers := { target := .collected D, args := #[] } :: a.defers } W)
    (hstop : ∀ (D : Nat) (c : Code) (pre : List α) (W : World), w.heap.size ≤ D → pre <+: L → Ix c pre W → W.heap[D]? = some (.deferred (some [])) → c.wpIn F n P Q { a with defers := { target := .collected D, args := #[] } :: a.defers } W) :
    (Code.rangeFunc g ps assign body).wpIn F n P Q a w := by
  refine wpIn_rangeFunc ?_
  intro fn hfn
  rw [hro]
  obtain ⟨rec, hrec⟩ : ∃ rec : LoopState → Option Code → Loop, rec = fun st pe => { state := st, pending := pe, fn, tmps := a.tmps, params := ps, assign, body, defers := w.heap.size } := ⟨_, rfl⟩
  obtain ⟨W1, hW1⟩ : ∃ W1, (w.alloc (.deferred (some []))).alloc (.loop (rec .ready none)) = W1 := ⟨_, rfl⟩
  have hs1 : W1.heap.size = w.heap.size + 1 + 1 := by rw [← hW1, World.size_alloc, World.size_alloc]
  have hg1 : w.grownBy W1 none := by
    rw [← hW1]
    have e1 := World.grownBy_alloc w (.deferred (some [])) none
    have e2 := World.grownBy_alloc (w.alloc (.deferred (some []))) (.loop (rec .ready none)) none
    exact ⟨e2.os.trans e1.os, e2.tape.trans e1.tape, e2.output.trans e1.output, Nat.le_trans e1.size e2.size, fun k hk hne => (e2.block k (Nat.lt_of_lt_of_le hk e1.size) hne).trans (e1.block k hk hne)⟩
  have hB1 : Books (w.heap.size + 1) w.heap.size (.loop (rec .ready none)) W1 := by
    rw [← hW1]
    have e1 := World.alloc_heap_new (w.alloc (.deferred (some []))) (.loop (rec .ready none))
    rw [World.size_alloc] at e1
    exact ⟨e1, (Below.heap_alloc _ _ _ (by rw [World.size_alloc]; omega)).trans (World.alloc_heap_new w _)⟩
  have hI1 : I [] X₀ W1 := hI [] X₀ X₀ w W1 none h0 hg1 nofun (fun b hb => .inl hb)
  have hbw : Below w0.heap.size w0 W1 := hb0.grown hg1 hb0.size nofun
  have hne : w.heap.size ≠ w.heap.size + 1 := by omega
  refine ⟨w.heap.size + 1, [{ target := .collected w.heap.size, args := #[] }], W1, { target := .fn (.func gf) lb, args := #[.func (.yield (w.heap.size + 1)) #[] #[]] }, W1, gf,
    #[.func (.yield (w.heap.size + 1)) #[] #[]] ++ lb, W1, ?_, ?_, ?_, ?_, fun _ => h1, ?_⟩
  · rw [← hW1, hrec]; exact run_enterLoop_outer _ _ _ _ _
  · simp only [resolve, hg]
    simp [go_sem]
  · intro f' hf'
    simp [Target.leads] at hf'
    subst hf'
    exact hFg
  · simp [invoke, go_sem, eg]
  refine (hseq (w.heap.size + 1)
    (fun pre X W => I pre X W ∧ (∀ b, X b → b ≠ w.heap.size + 1 ∧ b ≠ w.heap.size ∧ b < W.heap.size) ∧ w.heap.size + 1 < W.heap.size ∧ Books (w.heap.size + 1) w.heap.size (.loop (rec .ready none)) W)
    (fun pre W => ∃ c, Ix c pre W ∧ Books (w.heap.size + 1) w.heap.size (.loop (rec .done (some c))) W)
    W1 hbw ?_ ?_ ⟨hI1, fun b hb => ⟨by have := hX₀ b hb; omega, by have := hX₀ b hb; omega, by have := hX₀ b hb; omega⟩, by omega, hB1⟩).mono ?_
  · -- what the iterator does by itself
    rintro pre X X' W W' row ⟨hi, hx, hlt, hbk⟩ hgr hrow hX'
    have hsz := hgr.size
    refine ⟨hI pre X X' W W' row hi hgr (fun r e => .inl (hrow r e)) (fun b hb => (hX' b hb).imp_right And.left), fun b hb => ?_, by omega, hbk.grown hgr (fun r e => ⟨(hx r (hrow r e)).1, (hx r (hrow r e)).2.1⟩)⟩
    rcases hX' b hb with h | h
    · obtain ⟨q1, q2, q3⟩ := hx b h
      exact ⟨q1, q2, by omega⟩
    · exact ⟨by omega, by omega, h.2⟩
  · -- a round
    rintro pre X x W ⟨hi, hx, hlt, hbk⟩ hlen
    have hy := run_yield (P := P) (args := encs x) hbk.1 (by rw [hrec]; exact hps x)
    rw [hrec] at hy
    refine ⟨fn, _, assign, body, hy, roundIn_of_wpIn hfn (wpIn_mono (hassign _ pre X x W hi (fun b hb => (hx b hb).2.2) hlen (by omega)) ?_)⟩
    rintro e a' V hp
    cases e with
    | exit id => exact hp.elim
    | goto t => exact hp.elim
    | ret => exact hp.elim
    | panic ch => exact hp.elim
    | outgrown => exact hp.elim
    | normal =>
    obtain ⟨hgv, hax⟩ := hp
    have hszv := hgv.size
    have hbkv := hbk.grown hgv nofun
    have hiv := hI pre X X W V none hi hgv nofun (fun b hb => .inl hb)
    have hkv : KeepX n₀ X W V := ⟨(Below.refl n₀ W).grown hgv (by omega) nofun, fun b hb => hgv.block b (hx b hb).2.2 nofun⟩
    refine ⟨_, run_beginRound hbkv.1 (by rw [hrec]), ?_⟩
    have hb2 := hbkv.turn (lp' := .loop { rec .ready none with state := .busy }) hne
    have hk2 : KeepX n₀ X W (V.putObj (w.heap.size + 1) (.loop { rec .ready none with state := .busy })) := hkv.trans (KeepX.turn (by omega) (by omega) (fun b hb => (hx b hb).1))
    refine wpIn_mono (hbody _ pre X x a' _ (hI.turn _ hiv (by omega) hbkv.1 rfl) (hAx _ _ _ _ _ _ hax (by omega) hbkv.1 rfl) (fun b hb => by have := (hx b hb).2.2; simp; omega) hlen (by simp; omega)) ?_
    have fin : ∀ (jump : Option Code) (W3 : World), KeepsOthers (V.putObj (w.heap.size + 1) (.loop { rec .ready none with state := .busy })) W3 →
        w.heap.size + 1 < W3.heap.size ∧ (∃ o, W3.heap[w.heap.size + 1]? = some o ∧ o.isCells = false) ∧
        (Instr.endRound (w.heap.size + 1) jump).run P W3 = .ok (.bool jump.isNone) (W3.putObj (w.heap.size + 1) (.loop (rec (if jump.isNone then .ready else .done) jump))) ∧
        Books (w.heap.size + 1) w.heap.size (.loop (rec (if jump.isNone then .ready else .done) jump)) (W3.putObj (w.heap.size + 1) (.loop (rec (if jump.isNone then .ready else .done) jump))) := fun jump W3 hk3 => by
      have hb3 := hb2.kept rfl hk3
      have he := run_endRound (P := P) jump hb3.1
      rw [hrec] at he ⊢
      exact ⟨(Array.getElem?_eq_some_iff.1 hb3.1).1, ⟨_, hb3.1, rfl⟩, he, hb3.turn hne⟩
    rintro e a3 W3 hp
    cases e with
    | normal =>
      obtain ⟨hk3, hkx, hi3⟩ := hp
      obtain ⟨hl3, ⟨o, ho, hoc⟩, hr, hb4⟩ := fin none W3 hk3
      have hs3 : W.heap.size ≤ W3.heap.size := by have := hk3.size; simp only [World.putObj_size] at this; omega
      exact ⟨_, _, hr, .inl ⟨rfl, ⟨hI.turn _ hi3 (by omega) ho hoc, fun b hb => ⟨(hx b hb).1, (hx b hb).2.1, by have := (hx b hb).2.2; simp; omega⟩, by simpa using hl3, hb4⟩, (hk2.trans hkx).trans (KeepX.turn (by omega) hl3 (fun b hb => (hx b hb).1))⟩⟩
    | ret =>
      obtain ⟨hk3, hi3⟩ := hp
      obtain ⟨_, ⟨o, ho, hoc⟩, hr, hb4⟩ := fin (some .ret) W3 hk3
      exact ⟨_, _, hr, .inr ⟨rfl, .ret, (hIx _).putObj _ hi3 (by omega) ho hoc, hb4⟩⟩
    | exit id =>
      obtain ⟨hk3, hi3⟩ := hp
      obtain ⟨_, ⟨o, ho, hoc⟩, hr, hb4⟩ := fin (some (.exit id)) W3 hk3
      exact ⟨_, _, hr, .inr ⟨rfl, .exit id, (hIx _).putObj _ hi3 (by omega) ho hoc, hb4⟩⟩
    | goto t =>
      obtain ⟨hk3, hi3⟩ := hp
      obtain ⟨_, ⟨o, ho, hoc⟩, hr, hb4⟩ := fin (some (.goto t)) W3 hk3
      exact ⟨_, _, hr, .inr ⟨rfl, .goto t, (hIx _).putObj _ hi3 (by omega) ho hoc, hb4⟩⟩
    | panic ch => exact hp.elim
    | outgrown => exact hp.elim
  · -- behind the iterator
    rintro e W2 ⟨⟨v, rfl⟩, (⟨X, hi, _, _, hbk⟩ | ⟨pre, hSp, c, hi, hbk⟩)⟩
    · have he := run_endLoop (P := P) hbk.1 (by rw [hrec]; simp)
      rw [hrec] at he
      exact ⟨none, _, he, hdone _ X _ (Nat.le_refl _) (hI.turn _ hi (by omega) hbk.1 rfl) (World.putObj_heap_other hne |>.trans hbk.2)⟩
    · have he := run_endLoop (P := P) hbk.1 (by rw [hrec]; simp)
      rw [hrec] at he
      exact ⟨some c, _, he, hstop _ c pre _ (Nat.le_refl _) hSp ((hIx c).putObj _ hi (by omega) hbk.1 rfl) (World.putObj_heap_other hne |>.trans hbk.2)⟩
end
/-- append inside a fence, and where the new slice lies. -/
theorem wpListIn_append_lies {F : Fence} {n0 : Nat} {P : Program} (w : World) {ops : Array Oper} {rest : List Oper} {o : Oper} {a : Act} {Q : Exit → Act → World → Prop} (hgd : o.guard = none) (s x : Operand) (t : TypeId)
    (ho : o.op = .call { callee := .builtin .append, args := #[s, x], argTypes := #[t, t] })
    (base : Nat) (e : TypeId) (i : TypeInfo) (z : Value) (size bytes : Nat) (ht : P.underlying t = some (.slice e)) (hi : P.info? e = some i) (hz : i.zero = some z)
    (hsize : i.size = size) (hby : i.bytes = bytes) (hzs : z.cells.size = size) (hsz : 0 < size)
    (v : Value) (n : Nat) (xs : List Value) (hs : a.eval s = v) (hown : w.ownsRow base e size v n xs)
    (ad : Addr) (m c : Nat) (news : List Value) (hx : a.eval x = .slice (some ad) m c) (hl : news.length = m * size) (hnews : ∀ j u, news[j]? = some u → w.cell? (ad.add j) = some u) (h1 : ∀ u ∈ news, u.oneCell' = true)
    (hm : 0 < m) (h63 : n + m ≤ maxLen) (hbytes : (n + m) * bytes ≤ 140737488355328) (hbase : base ≤ w.heap.size) (H : Nat) (hH : w.heap.size = H)
    (h : ∀ g cap w', w'.ownsRow base e size (.slice (some ⟨g, 0, none⟩) (n + m) cap) (n + m) (xs ++ news) → w.grownBy w' v.ownBlock → (v.ownBlock = some g ∨ g = H) → g < w'.heap.size → wpListIn F n0 P ops Q rest (a.put o.dst (.slice (some ⟨g, 0, none⟩) (n + m) cap)) w') : wpListIn F n0 P ops Q (o :: rest) a w := by
  refine wpListIn_plain hgd fun K hK' => ?_
  obtain ⟨g, cap, w', hr, h2, h3, h4, h5⟩ := run_append_lies (P := P) w t o.type base e i z size bytes ht hi hz hsize hby hzs hsz v n xs hown ad m c news hl hnews h1 hm h63 hbytes hbase H hH
  unfold Oper.wpIn
  refine ⟨?_, ?_⟩
  · simp [Oper.about, ho, resolve, Target.leads, Sem.run_pure]
  · rw [Oper.semAt_plain F _ _ (by rw [ho]; intro c hc'; cases hc')]
    simp [execOp, ho, resolve, invoke, builtin, hs, hx, hr, Result.andThen]
    exact hK' _ _ (h g cap w' h2 h3 h4 h5)
theorem gb_ofBelow {w W W' : World} {row : Option Nat} (hb : Below w.heap.size w W) (hg : W.grownBy W' row) : w.grownBy W' row :=
  ⟨hg.os.trans hb.os, hg.tape.trans hb.tape, hg.output.trans hb.output, Nat.le_trans hb.size hg.size, fun k hk hne => (hg.block k (Nat.lt_of_lt_of_le hk hb.size) hne).trans (hb.block k hk)⟩
end Go.Proofs.YtbmcfodhjibooaaDoor
