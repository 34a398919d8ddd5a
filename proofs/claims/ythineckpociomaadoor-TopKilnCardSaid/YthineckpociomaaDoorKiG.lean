/-
  Items of a kiln in memory; slices.Clone of items, stages, defects; the kiln's block; its methods Done, Climate, Stage, Ticks, Items, Mean.
-/
import Derived.Test.YthineckpociomaaDoorKiF
import Derived.Test.YthineckpociomaaDoorAppRow
import Derived.Lib.BufferMore
import Derived.OwnWalk
import Derived.Laws.OwnMore
namespace Go.Proofs.YthineckpociomaaDoor
open Go.RowKit Saw

def itCells (x : Int × Cl) : List Value := [.int .i64 x.1, .int .i64 x.2.surf, .int .i64 x.2.core, .int .i64 x.2.stress]
def itsCells (l : List (Int × Cl)) : List Value := l.flatMap itCells
theorem itsCells_cons (x : Int × Cl) (l : List (Int × Cl)) : itsCells (x :: l) = itCells x ++ itsCells l := rfl
theorem itsCells_snoc (l : List (Int × Cl)) (x : Int × Cl) : itsCells (l ++ [x]) = itsCells l ++ itCells x := by simp [itsCells]
theorem itsCells_length (l : List (Int × Cl)) : (itsCells l).length = l.length * 4 := by
  induction l with
  | nil => rfl
  | cons x r ih => rw [itsCells_cons, List.length_append, ih, List.length_cons]; simp [itCells]; omega
theorem its_at (l : List (Int × Cl)) (i : Nat) (x : Int × Cl) (h : l[i]? = some x) (j : Nat) (hj : j < 4) : (itsCells l)[i * 4 + j]? = (itCells x)[j]? := by
  induction l generalizing i with
  | nil => simp at h
  | cons y r ih =>
    have e : (itCells y).length = 4 := rfl
    rw [itsCells_cons]
    cases i with
    | zero =>
      simp only [List.getElem?_cons_zero, Option.some.injEq] at h
      subst h
      rw [List.getElem?_append_left (by rw [e]; omega), Nat.zero_mul, Nat.zero_add]
    | succ k =>
      simp only [List.getElem?_cons_succ] at h
      rw [List.getElem?_append_right (by rw [e]; omega), e, ← ih k h]
      congr 1
      omega
/-- The slice value v reads as the items l; it lies below block B. -/
def RdIt (w : World) (B : Nat) (v : Value) (l : List (Int × Cl)) : Prop := Rd w B 4 v l.length (itsCells l)
theorem RdIt.form {w : World} {B : Nat} {v : Value} {l : List (Int × Cl)} (h : RdIt w B v l) : ∃ A c, v = .slice A l.length c ∧ l.length ≤ c ∧ l.length ≤ maxLen := by
  obtain ⟨_, h2, A, c, rfl, hc, _⟩ := h
  exact ⟨A, c, rfl, hc, h2⟩
theorem RdIt.range {w : World} {B : Nat} {A : Option Addr} {n c : Nat} {l : List (Int × Cl)} (h : RdIt w B (.slice A n c) l) {i : Nat} {x : Int × Cl} (hx : l[i]? = some x) :
    ∃ b off, A = some ⟨b, off, none⟩ ∧ b < B ∧ w.rangeAt b (off + i * 4) (itCells x) := Rd.rangeAt h (List.getElem?_eq_some_iff.1 hx).1 (show (itCells x).length = 4 from rfl) (its_at l i x hx)
theorem RdIt.at_ {w : World} {B : Nat} {A : Option Addr} {n c : Nat} {l : List (Int × Cl)} (h : RdIt w B (.slice A n c) l) {i : Nat} {x : Int × Cl} (hx : l[i]? = some x) :
    ∃ b off, A = some ⟨b, off, none⟩ ∧ b < B ∧ w.cell? ⟨b, off + i * 4, none⟩ = some (.int .i64 x.1) ∧ w.cell? ⟨b, off + i * 4 + 1, none⟩ = some (.int .i64 x.2.surf) ∧ w.cell? ⟨b, off + i * 4 + 2, none⟩ = some (.int .i64 x.2.core) ∧ w.cell? ⟨b, off + i * 4 + 3, none⟩ = some (.int .i64 x.2.stress) := by
  obtain ⟨b, off, h1, h2, h3⟩ := h.range hx
  exact ⟨b, off, h1, h2, h3 0 _ rfl, h3 1 _ rfl, h3 2 _ rfl, h3 3 _ rfl⟩
theorem RdIt.below {w w' : World} {B : Nat} {v : Value} {l : List (Int × Cl)} (h : RdIt w B v l) (hb : Below B w w') : RdIt w' B v l := Rd.below h hb
theorem RdIt.more {w : World} {B B' : Nat} {v : Value} {l : List (Int × Cl)} (h : RdIt w B v l) (hB : B ≤ B') : RdIt w B' v l := Rd.more h hB
theorem RdIt.next {w w' : World} {v : Value} {l : List (Int × Cl)} (h : RdIt w w.heap.size v l) (hb : Below w.heap.size w w') : RdIt w' w'.heap.size v l := (h.below hb).more hb.size
theorem info_it : (Tryd.prog.info? 60).map (fun i => (i.zero, i.size, i.bytes)) = some (some (.agg #[.int .i64 0, .int .i64 0, .int .i64 0, .int .i64 0]), 4, 32) := by kernel_rfl
theorem mem_it (l : List (Int × Cl)) : ∀ u ∈ itsCells l, u.oneCell' = true := by
  intro u hu
  obtain ⟨x, _, hx⟩ := List.mem_flatMap.1 hu
  simp only [itCells, List.mem_cons, List.not_mem_nil, or_false] at hx
  rcases hx with rfl | rfl | rfl | rfl <;> rfl

def ClonePostI (l : List (Int × Cl)) (w : World) (e : Ending) (w' : World) : Prop := ∃ A c, e = .returned (.slice A l.length c) ∧ w'.ownsRow w.heap.size 60 4 (.slice A l.length c) l.length (itsCells l) ∧ Below w.heap.size w w'
set_option maxRecDepth 100000 in
set_option maxHeartbeats 1000000 in
theorem cloneI_any (l : List (Int × Cl)) (A : Option Addr) (c : Nat) (w : World) (hrd : Rd w w.heap.size 4 (.slice A l.length c) l.length (itsCells l)) (hle : l.length ≤ 1000000) :
    Calls Tryd.prog 22 #[.slice A l.length c] w (ClonePostI l w) := by
  cases A with
  | none =>
    have hl : l = [] := by
      cases l with
      | nil => rfl
      | cons x r => obtain ⟨_, _, A, c, he, _, h⟩ := hrd; obtain ⟨b, off, h, _⟩ := h (Nat.succ_pos _); injection he with he _ _; rw [h] at he; cases he
    subst hl
    have hnil : ∀ W, (binOp .eql 57 (.slice none 0 c) (.slice none 0 0)).run Tryd.prog W = .ok (.bool true) W := fun W => Lib.run_eql_slice_nil_nil W _ _ Tryd.underlying57
    rw [List.length_nil]
    go_enter Tryd.func22, Tryd.ntmps22
    go_wp2_with fail
    go_ret
    exact ⟨none, 0, rfl, ⟨rfl, .inl ⟨rfl, rfl⟩⟩, Below.refl _ _⟩
  | some a =>
    have HRD := Lib.hid hrd
    clear hrd
    have hnil : ∀ W, (binOp .eql 57 (.slice (some a) l.length c) (.slice none 0 0)).run Tryd.prog W = .ok (.bool false) W := fun W => Lib.run_eql_slice_some_nil W _ _ _ Tryd.underlying57
    obtain ⟨i0, hi0, hq0, hq1, hq2⟩ := info_parts info_it
    have HX0 := Lib.hid ((Below.refl w.heap.size w).alloc (Nat.le_refl _) (.cells #[] 60))
    have HOWN0 := Lib.hid (show (w.alloc (.cells #[] 60)).ownsRow w.heap.size 60 4 (.slice (some ⟨w.heap.size, 0, none⟩) 0 0) 0 [] from ownsRow_new (cs := []) (Nat.le_refl _) rfl (by decide))
    have HL := Lib.hid hle
    clear hle
    go_enter Tryd.func22, Tryd.ntmps22
    go_wp2_with ((refine wpList_append_rows _ rfl _ _ 57 rfl w.heap.size 60 i0 _ 4 32 Tryd.underlying57 hi0 hq0 hq1 hq2 rfl (by omega) _ 0 [] rfl HOWN0.out _ rfl l.length _ (itsCells l) (Rd.next HRD.out HX0.out) (mem_it l) (by have h9 := HL.out; simp only [maxLen]; omega) (by have h9 := HL.out; omega) HX0.out.size ?_); intro v5 w5 hown5 hg5; have HOWN5 := Lib.hid hown5; have HB5 := Lib.hid (HX0.out.grown hg5 HX0.out.size (fun g hg => by have h9 : some w.heap.size = some g := hg; injection h9 with h9; omega)); clear hown5 hg5)
    go_ret
    have ho5 : w5.ownsRow w.heap.size 60 4 v5 l.length (itsCells l) := by have h9 := HOWN5.out; rw [Nat.zero_add, List.nil_append] at h9; exact h9
    obtain ⟨_, _, A5, c5, rfl, _, _⟩ := Rd.of_own ho5
    exact ⟨A5, c5, rfl, ho5, HB5.out⟩

theorem info_stg : (Tryd.prog.info? 69).map (fun i => (i.zero, i.size, i.bytes)) = some (some (.agg #[.int .i64 0, .int .i64 0, .int .i64 0, .int .i64 0]), 4, 32) := by kernel_rfl
theorem mem_stgs (l : List Stg) : ∀ u ∈ stgsCells l, u.oneCell' = true := by
  intro u hu
  obtain ⟨x, _, hx⟩ := List.mem_flatMap.1 hu
  exact stg_mem x u hx

def ClonePostS (l : List Stg) (w : World) (e : Ending) (w' : World) : Prop := ∃ A c, e = .returned (.slice A l.length c) ∧ w'.ownsRow w.heap.size 69 4 (.slice A l.length c) l.length (stgsCells l) ∧ Below w.heap.size w w'
set_option maxRecDepth 100000 in
set_option maxHeartbeats 1000000 in
theorem cloneS_any (l : List Stg) (A : Option Addr) (c : Nat) (w : World) (hrd : Rd w w.heap.size 4 (.slice A l.length c) l.length (stgsCells l)) (hle : l.length ≤ 1000000) :
    Calls Tryd.prog 21 #[.slice A l.length c] w (ClonePostS l w) := by
  cases A with
  | none =>
    have hl : l = [] := by
      cases l with
      | nil => rfl
      | cons x r => obtain ⟨_, _, A, c, he, _, h⟩ := hrd; obtain ⟨b, off, h, _⟩ := h (Nat.succ_pos _); injection he with he _ _; rw [h] at he; cases he
    subst hl
    have hnil : ∀ W, (binOp .eql 25 (.slice none 0 c) (.slice none 0 0)).run Tryd.prog W = .ok (.bool true) W := fun W => Lib.run_eql_slice_nil_nil W _ _ Tryd.underlying25
    rw [List.length_nil]
    go_enter Tryd.func21, Tryd.ntmps21
    go_wp2_with fail
    go_ret
    exact ⟨none, 0, rfl, ⟨rfl, .inl ⟨rfl, rfl⟩⟩, Below.refl _ _⟩
  | some a =>
    have HRD := Lib.hid hrd
    clear hrd
    have hnil : ∀ W, (binOp .eql 25 (.slice (some a) l.length c) (.slice none 0 0)).run Tryd.prog W = .ok (.bool false) W := fun W => Lib.run_eql_slice_some_nil W _ _ _ Tryd.underlying25
    obtain ⟨i0, hi0, hq0, hq1, hq2⟩ := info_parts info_stg
    have HX0 := Lib.hid ((Below.refl w.heap.size w).alloc (Nat.le_refl _) (.cells #[] 69))
    have HOWN0 := Lib.hid (show (w.alloc (.cells #[] 69)).ownsRow w.heap.size 69 4 (.slice (some ⟨w.heap.size, 0, none⟩) 0 0) 0 [] from ownsRow_new (cs := []) (Nat.le_refl _) rfl (by decide))
    have HL := Lib.hid hle
    clear hle
    go_enter Tryd.func21, Tryd.ntmps21
    go_wp2_with ((refine wpList_append_rows _ rfl _ _ 25 rfl w.heap.size 69 i0 _ 4 32 Tryd.underlying25 hi0 hq0 hq1 hq2 rfl (by omega) _ 0 [] rfl HOWN0.out _ rfl l.length _ (stgsCells l) (Rd.next HRD.out HX0.out) (mem_stgs l) (by have h9 := HL.out; simp only [maxLen]; omega) (by have h9 := HL.out; omega) HX0.out.size ?_); intro v5 w5 hown5 hg5; have HOWN5 := Lib.hid hown5; have HB5 := Lib.hid (HX0.out.grown hg5 HX0.out.size (fun g hg => by have h9 : some w.heap.size = some g := hg; injection h9 with h9; omega)); clear hown5 hg5)
    go_ret
    have ho5 : w5.ownsRow w.heap.size 69 4 v5 l.length (stgsCells l) := by have h9 := HOWN5.out; rw [Nat.zero_add, List.nil_append] at h9; exact h9
    obtain ⟨_, _, A5, c5, rfl, _, _⟩ := Rd.of_own ho5
    exact ⟨A5, c5, rfl, ho5, HB5.out⟩

/-- The cells of a kiln. -/
def kiCells (sc : Sc) (s : Sp) (sv iv : Value) (k : Ki) : List Value := [.string (str sc.name), .int .i64 sc.ramp, sv, .string (str s.name), .int .i64 s.green, .int .i64 s.fast, .int .i64 s.slow, .int .i64 s.safe, .int .i64 s.grad, .int .i64 s.crack, .int .i64 s.temp, .int .i64 s.depress, .int .i64 s.density, .int .i64 s.stiff, .int .i64 s.knots, .int .i64 s.shrink, iv, .int .i64 k.cm.temp, .int .i64 k.cm.dep, .int .i64 k.stage, .int .i64 k.inStage, .int .i64 k.ticks, .int .i64 k.held]
/-- The kiln k at block g: its stages, its items. -/
structure KnAt (W : World) (g : Nat) (sc : Sc) (s : Sp) (sv iv : Value) (k : Ki) : Prop where
  blk : W.heap[g]? = some (.cells (kiCells sc s sv iv k).toArray 78 (0, 0))
  st : RdSt W g sv sc.stages
  it : RdIt W W.heap.size iv k.items
  ne : iv.ownBlock ≠ some g
section
variable {W W5 : World} {g : Nat} {sc : Sc} {s : Sp} {sv iv : Value} {k : Ki}
theorem KnAt.sz (h : KnAt W g sc s sv iv k) : g < W.heap.size := (Array.getElem?_eq_some_iff.1 h.blk).1
theorem KnAt.below (h : KnAt W g sc s sv iv k) (hb : Below W.heap.size W W5) : KnAt W5 g sc s sv iv k :=
  ⟨(hb.block _ h.sz).trans h.blk, h.st.below (hb.mono (Nat.le_of_lt h.sz)), h.it.next hb, h.ne⟩
theorem KnAt.cell (h : KnAt W g sc s sv iv k) {j : Nat} {v : Value} (hj : (kiCells sc s sv iv k)[j]? = some v) : W.cell? ⟨g, j, none⟩ = some v := by
  rw [cell_of_row W g j _ _ _ h.blk, List.getElem?_toArray]
  exact hj
theorem KnAt.fz (h : KnAt W g sc s sv iv k) (j : Nat) : W.frozen? ⟨g, j, none⟩ = false := frz h.blk j
theorem KnAt.drewN (h : KnAt W g sc s sv iv k) (n : Nat) : KnAt (W.drewN n) g sc s sv iv k := ⟨h.blk, h.st, h.it, h.ne⟩
end

set_option maxRecDepth 100000 in
set_option maxHeartbeats 1000000 in
theorem climate_any (W : World) (g : Nat) (sc : Sc) (s : Sp) (sv iv : Value) (k : Ki) (h : KnAt W g sc s sv iv k) : Calls Tryd.prog 24 #[.pointer (some ⟨g, 0, none⟩)] W (CmB k.cm W) := by
  have q0 := h.cell (j := 17) rfl
  have q1 := h.cell (j := 18) rfl
  have hsz := h.sz
  clear h
  go_enter Tryd.func24, Tryd.ntmps24
  go_wp2_with fail
  exact bodyPost_ret (results_cell1 Tryd.results24 _ _ W.heap.size 0 _ rfl (rangeAt_block (heap_alloc_last W (cmO k.cm))) Tryd.underlying42 rfl cm_info) rfl ⟨rfl, bel_alloc (Below.refl _ _)⟩

set_option maxRecDepth 100000 in
set_option maxHeartbeats 1000000 in
theorem stage_any (W : World) (g : Nat) (sc : Sc) (s : Sp) (sv iv : Value) (k : Ki) (h : KnAt W g sc s sv iv k) : Calls Tryd.prog 30 #[.pointer (some ⟨g, 0, none⟩)] W fun e w' => e = .returned (.int .i64 k.stage) ∧ w' = W := by
  have q0 := h.cell (j := 19) rfl
  clear h
  go_enter Tryd.func30, Tryd.ntmps30
  go_wp2_with fail
  go_ret
  exact ⟨rfl, rfl⟩

set_option maxRecDepth 100000 in
set_option maxHeartbeats 1000000 in
theorem ticks_any (W : World) (g : Nat) (sc : Sc) (s : Sp) (sv iv : Value) (k : Ki) (h : KnAt W g sc s sv iv k) : Calls Tryd.prog 29 #[.pointer (some ⟨g, 0, none⟩)] W fun e w' => e = .returned (.tuple #[.int .i64 k.ticks, .int .i64 k.held]) ∧ ∃ n, w' = W.drewN n := by
  have q0 := h.cell (j := 21) rfl
  have q1 := h.cell (j := 22) rfl
  clear h
  go_enter Tryd.func29, Tryd.ntmps29
  go_wp2_with fail
  go_quiet (fail)
  go_wp2_with fail
  go_ret2
  exact ⟨rfl, _, rfl⟩

set_option maxRecDepth 100000 in
set_option maxHeartbeats 1000000 in
theorem done_any (W : World) (g : Nat) (sc : Sc) (s : Sp) (sv iv : Value) (k : Ki) (h : KnAt W g sc s sv iv k) : Calls Tryd.prog 26 #[.pointer (some ⟨g, 0, none⟩)] W fun e w' => e = .returned (.bool (decide (k.stage = sc.stages.length))) ∧ ∃ n, w' = W.drewN n := by
  obtain ⟨A, c, rfl, hc, hml⟩ := h.st.form
  have q0 := h.cell (j := 19) rfl
  have q1 := h.cell (j := 2) rfl
  clear h
  unfold maxLen at hml
  obtain ⟨b, hb⟩ : ∃ b, decide (k.stage = sc.stages.length) = b := ⟨_, rfl⟩
  have hb2 : (k.stage == (sc.stages.length : Int)) = b := by rw [← hb]; rfl
  rw [hb]
  go_enter Tryd.func26, Tryd.ntmps26
  go_wp2_with fail
  go_quiet (fail)
  go_wp2_with fail
  go_ret
  exact ⟨rfl, _, rfl⟩

set_option maxRecDepth 100000 in
set_option maxHeartbeats 1000000 in
theorem items_any (W : World) (g : Nat) (sc : Sc) (s : Sp) (sv iv : Value) (k : Ki) (h : KnAt W g sc s sv iv k) (hl : k.items.length ≤ 1024) : Calls Tryd.prog 16 #[.pointer (some ⟨g, 0, none⟩)] W (ClonePostI k.items W) := by
  obtain ⟨A, c, rfl, hc, hml⟩ := h.it.form
  have q0 := h.cell (j := 16) rfl
  have HI := Lib.hid h.it
  clear h
  go_enter Tryd.func16, Tryd.ntmps16
  go_wp2_with fail
  refine (cloneI_any k.items A c _ HI.out (by omega)).mono ?_
  rintro e w1 ⟨A1, c1, rfl, ho, hb⟩
  have HO := Lib.hid ho
  have HB := Lib.hid hb
  clear ho hb
  go_wp2_with fail
  go_ret
  exact ⟨A1, c1, rfl, HO.out, HB.out⟩

/-- The sum of the cores of the items behind number k. -/
theorem sum_step {l : List (Int × Cl)} {k : Nat} {x : Int × Cl} (h : l[k]? = some x) : sumCore (l.take (k + 1)) = sumCore (l.take k) + x.2.core := by
  unfold sumCore
  rw [List.take_add_one, h, List.map_append, List.sum_append]
  simp
theorem sum_in {l : List (Int × Cl)} (h : ∀ x ∈ l, ClOk x.2) : 0 ≤ sumCore l ∧ sumCore l ≤ 20000 * l.length := by
  induction l with
  | nil => exact ⟨Int.le_refl _, Int.le_refl _⟩
  | cons x r ih =>
    have h1 := h x (List.mem_cons_self ..)
    have h2 := ih fun y hy => h y (List.mem_cons_of_mem _ hy)
    have e : sumCore (x :: r) = x.2.core + sumCore r := by simp [sumCore]
    unfold ClOk at h1
    rw [e, List.length_cons]
    omega
set_option maxRecDepth 100000 in
set_option maxHeartbeats 4000000 in
theorem mean_any (W : World) (g : Nat) (sc : Sc) (s : Sp) (sv iv : Value) (k : Ki) (h : KnAt W g sc s sv iv k) (hl : 0 < k.items.length ∧ k.items.length ≤ 1024) (hok : ∀ x ∈ k.items, ClOk x.2) : Calls Tryd.prog 44 #[.pointer (some ⟨g, 0, none⟩)] W (IntB (meanP k.items) W) := by
  obtain ⟨A, c, rfl, hc, hml⟩ := h.it.form
  have q0 := h.cell (j := 16) rfl
  have hsz := h.sz
  have HI := Lib.hid h.it
  have HKN := Lib.hid h
  have HOK := Lib.hid hok
  obtain ⟨n, hn⟩ : ∃ n, k.items.length = n := ⟨_, rfl⟩
  have HNN := Lib.hid hn
  have hnz : ((n : Int) == 0) = false := by rw [beq_eq_false_iff_ne]; omega
  have hgz : ((k.items.length : Int) == 0) = false := by rw [beq_eq_false_iff_ne]; omega
  clear h hok hn
  go_enter Tryd.func44, Tryd.ntmps44
  go_wp2_with fail
  go_loopw [3, 21] (fun q i wr => ∃ j : Nat, j ≤ k.items.length ∧ i = .int .i64 j ∧ q = .int .i64 (sumCore (k.items.take j)) ∧ Below W.heap.size W wr) (fun _ i _ => k.items.length - (intOf i).toNat)
  case atStart => exact ⟨0, by omega, rfl, rfl, Below.refl _ _⟩
  case round =>
    obtain ⟨j, hj, rfl, rfl, hb⟩ := hrel
    have HB := Lib.hid hb
    have hszr := hb.size
    have hs := sum_in (l := k.items.take j) (fun x hx => HOK.out x (List.mem_of_mem_take hx))
    rw [List.length_take] at hs
    obtain ⟨q, hq⟩ : ∃ q, sumCore (k.items.take j) = q := ⟨_, rfl⟩
    rw [hq] at hs ⊢
    have q0 := (HKN.out.below hb).cell (j := 16) rfl
    by_cases hlt : j < k.items.length
    · have hx : k.items[j]? = some k.items[j] := List.getElem?_eq_getElem hlt
      obtain ⟨x, hxe⟩ : ∃ x, k.items[j] = x := ⟨_, rfl⟩
      rw [hxe] at hx
      obtain ⟨b, off, rfl, hbl, d0, d1, d2, d3⟩ := (HI.out.below hb).at_ hx
      have hxo := HOK.out x (List.mem_of_getElem? hx)
      unfold ClOk at hxo
      have HS := Lib.hid (show sumCore (k.items.take (j + 1)) = q + x.2.core by rw [sum_step hx, hq])
      have HB2 := Lib.hid (bel_alloc (ob := .cells #[.int .i64 x.1, .int .i64 x.2.surf, .int .i64 x.2.core, .int .i64 x.2.stress] 60) hb)
      clear hb hx hxe hq
      go_wp2_with fail
      exact ⟨⟨j + 1, by omega, by go_num, by rw [HS.out], HB2.out⟩, by simp [intOf]; omega⟩
    · have HM := Lib.hid (show meanP k.items = q / (k.items.length : Int) by rw [meanP, ← hq, List.take_of_length_le (by omega)])
      have hd : q.tdiv (k.items.length : Int) = q / (k.items.length : Int) := Int.tdiv_eq_ediv_of_nonneg hs.1
      have hde : 0 ≤ q / (k.items.length : Int) ∧ q / (k.items.length : Int) ≤ q := ⟨Int.ediv_nonneg hs.1 (by omega), Int.ediv_le_self _ hs.1⟩
      obtain ⟨z, hz⟩ : ∃ z, q / (k.items.length : Int) = z := ⟨_, rfl⟩
      rw [hz] at hd hde
      have HZ := Lib.hid hz
      clear hb hq hz
      go_wp2_with fail
      go_ret
      exact ⟨by rw [HM.out, HZ.out]; rfl, HB.out⟩
end Go.Proofs.YthineckpociomaaDoor
