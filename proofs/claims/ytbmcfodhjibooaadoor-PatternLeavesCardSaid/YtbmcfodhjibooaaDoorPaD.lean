/-
  The contract of pattern's places: the iterator over the places of a pattern's nodes.
-/
import Derived.Test.YtbmcfodhjibooaaDoorPaC
import Derived.Test.YtbmcfodhjibooaaDoorPfX
import Derived.Shelf.Abstract
import Derived.OwnWalkIn
import Derived.TacticsInMore
import Derived.LoopNIn
import Derived.LoopIn
import Derived.Maps.AppendAt
namespace Saw
/-- A list with its indices. -/
def ixs : Nat → List Plc → List (Nat × Plc)
  | _, [] => []
  | k, x :: r => (k, x) :: ixs (k + 1) r
theorem plsP_nil (kerf : Int) (ns : List Nd) : plsP kerf ns [] = [] := by cases ns <;> rfl
theorem ixs_length : ∀ (l : List Plc) (k : Nat), (ixs k l).length = l.length
  | [], _ => rfl
  | x :: r, k => by rw [ixs, List.length_cons, List.length_cons, ixs_length r]
end Saw
namespace Go.Proofs.YtbmcfodhjibooaaDoor
open Go.RowKit Saw Go.Shelf
attribute [local go_sem] Oper.semAt_some

def ndCells (l : List Nd) : List Value := l.flatMap fun n => [.int .i64 n.kind, .int .i64 n.pos]
/-- The slice value v reads as the nodes l; it lies below block B. -/
def RdNd (w : World) (B : Nat) (v : Value) (l : List Nd) : Prop := Rd w B 2 v l.length (ndCells l)
theorem nds_at : ∀ (l : List Nd) (i : Nat) (n : Nd), l[i]? = some n → (ndCells l)[i * 2]? = some (.int .i64 n.kind) ∧ (ndCells l)[i * 2 + 1]? = some (.int .i64 n.pos)
  | [], i, n, h => by simp at h
  | m :: r, 0, n, h => by
    simp only [List.getElem?_cons_zero, Option.some.injEq] at h
    subst h
    exact ⟨rfl, rfl⟩
  | m :: r, i + 1, n, h => by
    simp only [List.getElem?_cons_succ] at h
    obtain ⟨h1, h2⟩ := nds_at r i n h
    have e : ∀ j, (ndCells (m :: r))[(i + 1) * 2 + j]? = (ndCells r)[i * 2 + j]? := fun j => by
      rw [ndCells, List.flatMap_cons, List.getElem?_append_right (by simp; omega)]
      simp only [List.length_cons, List.length_nil]
      rw [show (i + 1) * 2 + j - (0 + 1 + 1) = i * 2 + j by omega]
      rfl
    exact ⟨(e 0).trans h1, (e 1).trans h2⟩
theorem ndCells_length (l : List Nd) : (ndCells l).length = l.length * 2 := by
  induction l with
  | nil => rfl
  | cons n r ih => rw [ndCells, List.flatMap_cons, List.length_append, ← ndCells, ih]; simp; omega
theorem RdNd.form {w : World} {B : Nat} {v : Value} {l : List Nd} (h : RdNd w B v l) : ∃ A c, v = .slice A l.length c ∧ l.length ≤ c ∧ l.length ≤ maxLen := by
  obtain ⟨_, h2, A, c, rfl, hc, _⟩ := h
  exact ⟨A, c, rfl, hc, h2⟩
theorem RdNd.at_ {w : World} {B : Nat} {A : Option Addr} {n c : Nat} {l : List Nd} (h : RdNd w B (.slice A n c) l) {i : Nat} {x : Nd} (hx : l[i]? = some x) :
    ∃ b off, A = some ⟨b, off, none⟩ ∧ b < B ∧ w.cell? ⟨b, off + i * 2, none⟩ = some (.int .i64 x.kind) ∧ w.cell? ⟨b, off + i * 2 + 1, none⟩ = some (.int .i64 x.pos) := by
  obtain ⟨_, _, A', c', he, _, h3⟩ := h
  injection he with h1 h2 h4
  subst h1
  obtain ⟨b, off, rfl, hb, hcell⟩ := h3 (by have := (List.getElem?_eq_some_iff.1 hx).1; omega)
  obtain ⟨q1, q2⟩ := nds_at l i x hx
  exact ⟨b, off, rfl, hb, hcell _ _ q1, by rw [Nat.add_assoc]; exact hcell _ _ q2⟩
theorem RdNd.below {w w' : World} {B : Nat} {v : Value} {l : List Nd} (h : RdNd w B v l) (hb : Below B w w') : RdNd w' B v l := Rd.below h hb
theorem RdNd.more {w : World} {B B' : Nat} {v : Value} {l : List Nd} (h : RdNd w B v l) (hB : B ≤ B') : RdNd w B' v l := Rd.more h hB
theorem RdNd.next {w w' : World} {v : Value} {l : List Nd} (h : RdNd w w.heap.size v l) (hb : Below w.heap.size w w') : RdNd w' w'.heap.size v l := Rd.next h hb

def plCells (x : Plc) : List Value := [.int .i64 x.rect.xa, .int .i64 x.rect.xb, .int .i64 x.rect.ya, .int .i64 x.rect.yb, .int .i64 x.level]
def plsCells (l : List Plc) : List Value := l.flatMap plCells
theorem plsCells_length (l : List Plc) : (plsCells l).length = l.length * 5 := by
  induction l with
  | nil => rfl
  | cons n r ih => rw [plsCells, List.flatMap_cons, List.length_append, ← plsCells, ih]; simp [plCells]; omega
theorem plsCells_snoc (l : List Plc) (x : Plc) : plsCells (l ++ [x]) = plsCells l ++ plCells x := by simp [plsCells]
/-- The stack st lies in block g, its top last. -/
def StackAt (w : World) (B g cap : Nat) (st : List Plc) : Prop := w.ownsRow B 88 5 (.slice (some ⟨g, 0, none⟩) st.length cap) st.length (plsCells st.reverse)
theorem StackAt.parts {w : World} {B g cap : Nat} {st : List Plc} (h : StackAt w B g cap st) : B ≤ g ∧ ∃ cur, w.heap[g]? = some (.cells cur 88 (0, 0)) ∧ st.length ≤ cap ∧ cap ≤ maxLen ∧ cur.size = cap * 5 ∧ cur.toList.take (st.length * 5) = plsCells st.reverse := by
  obtain ⟨_, h2⟩ := h
  rcases h2 with ⟨h3, _⟩ | ⟨g', cap', cur, h3, h4, h5, h6, h7, h8, h9⟩
  · cases h3
  · injection h3 with e1 e2 e3
    injection e1 with e1
    injection e1 with e1
    subst e1 e3
    exact ⟨h4, cur, h5, h6, h7, h8, h9⟩
theorem StackAt.of {w : World} {B g cap : Nat} {st : List Plc} (h : B ≤ g) {cur : Array Value} (h1 : w.heap[g]? = some (.cells cur 88 (0, 0))) (h2 : st.length ≤ cap) (h3 : cap ≤ maxLen) (h4 : cur.size = cap * 5) (h5 : cur.toList.take (st.length * 5) = plsCells st.reverse) : StackAt w B g cap st :=
  ⟨by rw [plsCells_length, List.length_reverse], .inr ⟨g, cap, cur, rfl, h, h1, h2, h3, h4, h5⟩⟩
theorem StackAt.pop {w : World} {B g cap : Nat} {x : Plc} {st : List Plc} (h : StackAt w B g cap (x :: st)) : StackAt w B g cap st := by
  obtain ⟨h1, cur, h2, h3, h4, h5, h6⟩ := h.parts
  refine .of h1 h2 (by rw [List.length_cons] at h3; omega) h4 h5 ?_
  have := congrArg (List.take (st.length * 5)) h6
  rw [List.take_take, List.reverse_cons, plsCells_snoc, List.take_left' (by rw [plsCells_length, List.length_reverse]), List.length_cons] at this
  rwa [Nat.min_eq_left (by omega)] at this
theorem StackAt.top {w : World} {B g cap : Nat} {x : Plc} {st : List Plc} (h : StackAt w B g cap (x :: st)) : ∀ j, j < 5 → w.cell? ⟨g, st.length * 5 + j, none⟩ = (plCells x)[j]? := fun j hj => by
  obtain ⟨h1, cur, h2, h3, h4, h5, h6⟩ := h.parts
  rw [cell_of_row w g _ cur _ (0, 0) h2]
  have := congrArg (fun l => l[st.length * 5 + j]?) h6
  rw [List.getElem?_take_of_lt (by rw [List.length_cons]; omega), List.reverse_cons, plsCells_snoc, List.getElem?_append_right (by rw [plsCells_length, List.length_reverse]; omega), plsCells_length, List.length_reverse, Nat.add_sub_cancel_left] at this
  rw [← this]
  simp
theorem StackAt.kept {w w' : World} {B g cap : Nat} {st : List Plc} (h : StackAt w B g cap st) (hk : w'.heap[g]? = w.heap[g]?) : StackAt w' B g cap st := by
  obtain ⟨h1, cur, h2, h3, h4, h5, h6⟩ := h.parts
  exact .of h1 (hk.trans h2) h3 h4 h5 h6
theorem StackAt.lt {w : World} {B g cap : Nat} {st : List Plc} (h : StackAt w B g cap st) : g < w.heap.size := by
  obtain ⟨_, cur, h2, _⟩ := h.parts
  exact (Array.getElem?_eq_some_iff.1 h2).1

theorem pl_infoE : (Tryd.prog.info? 88).map (fun i => (i.zero, i.size, i.bytes)) = some (some (.agg #[.int .i64 0, .int .i64 0, .int .i64 0, .int .i64 0, .int .i64 0]), 5, 40) := by kernel_rfl
def PatAt (w : World) (B : Nat) (r : Rc) (nv : Value) : Prop := w.heap[B]? = some (.cells #[.int .i64 r.xa, .int .i64 r.xb, .int .i64 r.ya, .int .i64 r.yb, nv] 28 (0, 0))

set_option maxRecDepth 100000 in
set_option maxHeartbeats 4000000 in
theorem places1_in (n l Bp Bk n₀ : Nat) (hn1 : 1 ≤ n) (r : Rc) (ns : List Nd) (nv : Value) (kerf : Int) (J : List (Nat × Plc) → (Nat → Prop) → World → Prop) (Jx : List (Nat × Plc) → World → Prop) (hJ : Bears J)
    (hY : ∀ pre X x W, J pre X W → (∃ rest, ixs 0 (plsP kerf ns [⟨r, 1⟩]) = pre ++ x :: rest) → YieldAt Fence.wide (n - 1) Tryd.prog l #[.int .i64 x.1, plV x.2] W fun e W' => (e = .returned (.bool true) ∧ J (pre ++ [x]) X W' ∧ KeepX n₀ X W W') ∨ (e = .returned (.bool false) ∧ Jx (pre ++ [x]) W'))
    (W : World) (hp : PatAt W Bp r nv) (hk : W.heap[Bk]? = some (.cells #[.int .i64 kerf] 3 (0, 0))) (hB : Bp < W.heap.size ∧ Bk < W.heap.size ∧ n₀ ≤ W.heap.size) (hns : RdNd W n₀ nv ns) (hlen : ns.length ≤ 127) (h0 : J [] (fun b => b = Bp ∨ b = Bk) W) :
    CallsIn Fence.wide n Tryd.prog 83 #[.func (.yield l) #[] #[], .pointer (some ⟨Bp, 0, none⟩), .pointer (some ⟨Bk, 0, none⟩)] W fun e W' => (∃ v, e = .returned v) ∧
      ((∃ X, J (ixs 0 (plsP kerf ns [⟨r, 1⟩])) X W') ∨ (∃ pre, pre <+: ixs 0 (plsP kerf ns [⟨r, 1⟩]) ∧ Jx pre W')) := by
  obtain ⟨L, hL⟩ : ∃ L, ixs 0 (plsP kerf ns [⟨r, 1⟩]) = L := ⟨_, rfl⟩
  rw [hL] at hY ⊢
  obtain ⟨A, c, rfl, hc, hml⟩ := hns.form
  unfold maxLen at hml
  obtain ⟨hB1, hB2, hB3⟩ := hB
  have HP := Lib.hid hp
  have HK := Lib.hid hk
  have HN := Lib.hid hns
  have HL := Lib.hid hL
  have HJ := Lib.hid hJ
  have HY := Lib.hid hY
  have H0 := Lib.hid h0
  have p01 := cells5 hp
  obtain ⟨p0, p1, p2, p3, p4⟩ := p01
  clear hp hk hns hL hJ hY h0
  refine callsIn_of_wp Tryd.func83 rfl trivial ?_ rfl
  simp only [Tryd.ntmps83, List.size_toArray, List.length_cons, List.length_nil, Nat.reduceAdd, Nat.reduceSub, Array.replicate_succ, Array.replicate_zero, List.push_toArray, List.append_toArray, List.nil_append, List.cons_append]
  gi_wp2
  have hnew := ownsRow_new (w := W) (base := W.heap.size) (len := 1) (size := 5) (e := 88) (cs := plCells ⟨r, 1⟩) (Nat.le_refl _) rfl (by decide)
  gi_loopw [4, 5] (fun ov i wr => ∃ (k : Nat) (st : List Plc) (pre : List (Nat × Plc)) (g cap : Nat), ov = .slice (some ⟨g, 0, none⟩) st.length cap ∧ i = .int .i64 k ∧ k ≤ ns.length + 1 ∧ st.length ≤ k + 1 ∧ (∀ x ∈ st, 0 ≤ x.level ∧ x.level ≤ k + 1) ∧
      L = pre ++ ixs k (plsP kerf (ns.drop k) st) ∧ StackAt wr W.heap.size g cap st ∧ J pre (fun b => (b = Bp ∨ b = Bk) ∨ b = g) wr ∧ Below n₀ W wr ∧ W.heap.size ≤ wr.heap.size ∧ (k ≤ ns.length ∨ st = []) ∧ PatAt wr Bp r (.slice A ns.length c) ∧ wr.heap[Bk]? = some (.cells #[.int .i64 kerf] 3 (0, 0)))
    (fun _ i _ => ns.length + 2 - (intOf i).toNat)
  case atStart =>
    refine ⟨0, [⟨r, 1⟩], [], W.heap.size, 1, rfl, rfl, by omega, by simp, ?_, HL.out.symm, hnew, ?_, ?_, by simp, .inl (by omega), hpA HP.out _, hpA HK.out _⟩
    · intro x hx
      simp only [List.mem_singleton] at hx
      subst hx
      simp only
      omega
    · exact HJ.out [] (fun b => b = Bp ∨ b = Bk) _ W _ none H0.out (World.grownBy_alloc W _ none) nofun (fun b hb => hb.elim .inl fun hb => .inr ⟨by omega, by simp only [World.size_alloc]; omega⟩)
    · exact (Below.refl n₀ W).alloc hB3 _
  case round =>
    obtain ⟨k, st, pre, g, cap, rfl, rfl, hk1, hst, hlv, hLe, hsa, hJs, hbw, hsz, hks, hpr, hkr⟩ := hrel
    have HSA := Lib.hid hsa
    have HJS := Lib.hid hJs
    have HLE := Lib.hid hLe
    have HLV := Lib.hid hlv
    have HBW := Lib.hid hbw
    have hglt := hsa.lt
    have hgB := hsa.parts.1
    have HPR := Lib.hid hpr
    have HKR := Lib.hid hkr
    obtain ⟨p0, p1, p2, p3, p4⟩ := cells5 hpr
    clear hpr hkr
    have hcap := hsa.parts.2
    clear hsa hJs hLe hlv hbw
    cases st with
    | nil =>
      gi_wp2
      go_end0
      refine ⟨⟨_, rfl⟩, .inl ⟨fun b => (b = Bp ∨ b = Bk) ∨ b = g, ?_⟩⟩
      have := HLE.out
      rw [plsP_nil, ixs, List.append_nil] at this
      rw [this]
      exact HJS.out
    | cons x st =>
      have hkn : k ≤ ns.length := by
        rcases hks with h | h
        · exact h
        · cases h
      rw [List.length_cons] at hst
      have ht := HSA.out.top
      have t0 := ht 0 (by omega)
      have t1 := ht 1 (by omega)
      have t2 := ht 2 (by omega)
      have t3 := ht 3 (by omega)
      have t4 := ht 4 (by omega)
      obtain ⟨cur, _, hcp1, hcp2, _, _⟩ := hcap
      rw [List.length_cons] at hcp1
      unfold maxLen at hcp2
      clear ht hks
      simp only [plCells, List.getElem?_cons_zero, List.getElem?_cons_succ, Nat.add_zero] at t0 t1 t2 t3 t4
      obtain ⟨R, hR⟩ : ∃ R, plsP kerf (ns.drop k) (x :: st) = x :: R := by
        cases ns.drop k with
        | nil => exact ⟨_, rfl⟩
        | cons n r => exact ⟨_, rfl⟩
      have hJ1 := HJ.out pre _ (fun b => ((b = Bp ∨ b = Bk) ∨ b = g) ∨ b = wr.heap.size) wr _ none HJS.out (World.grownBy_alloc wr (.cells (plCells x).toArray 88) none) nofun (fun b hb => hb.elim .inl fun e => .inr ⟨by omega, by simp only [World.size_alloc]; omega⟩)
      obtain ⟨fn, tmps, assign, body, hy, hRn⟩ := HY.out pre _ (k, x) _ hJ1 ⟨ixs (k + 1) R, by rw [HLE.out, hR, ixs]⟩
      have hy : (Instr.yield l #[.int .i64 (k : Int), .agg #[.int .i64 x.rect.xa, .int .i64 x.rect.xb, .int .i64 x.rect.ya, .int .i64 x.rect.yb, .int .i64 x.level]]).run Tryd.prog (wr.alloc (.cells #[.int .i64 x.rect.xa, .int .i64 x.rect.xb, .int .i64 x.rect.ya, .int .i64 x.rect.yb, .int .i64 x.level] 88)) = .ok (.round l fn tmps assign body) (wr.alloc (.cells #[.int .i64 x.rect.xa, .int .i64 x.rect.xb, .int .i64 x.rect.ya, .int .i64 x.rect.yb, .int .i64 x.level] 88)) := hy
      have HR := Lib.hid hR
      clear hJ1 hR
      gi_wp2
      refine hRn.mono ?_
      have hbw1 : Below n₀ W (wr.alloc (.cells #[.int .i64 x.rect.xa, .int .i64 x.rect.xb, .int .i64 x.rect.ya, .int .i64 x.rect.yb, .int .i64 x.level] 88)) := HBW.out.alloc (by omega) _
      rintro e W3 (⟨rfl, hJ3, hk3⟩ | ⟨rfl, hJx3⟩)
      · have hbw3 := hbw1.trans hk3.1
        have hsz3 := hk3.1.size
        rw [World.size_alloc] at hsz3
        have hs3 : StackAt W3 W.heap.size g cap st := (HSA.out.pop).kept ((hk3.2 g (.inl (.inr rfl))).trans (Below.heap_alloc _ _ _ hglt))
        have hx3 : W3.heap[wr.heap.size]? = some (.cells #[.int .i64 x.rect.xa, .int .i64 x.rect.xb, .int .i64 x.rect.ya, .int .i64 x.rect.yb, .int .i64 x.level] 88 (0, 0)) := (hk3.2 wr.heap.size (.inr rfl)).trans (heap_alloc_last wr _)
        have hp3 := (hk3.2 Bp (.inl (.inl (.inl rfl)))).trans (hpA HPR.out _)
        have HP3 := Lib.hid hp3
        have HX3 := Lib.hid hx3
        have HS3 := Lib.hid hs3
        have HJ3 := Lib.hid hJ3
        have HB3 := Lib.hid hbw3
        have HK3 := Lib.hid ((hk3.2 Bk (.inl (.inl (.inr rfl)))).trans (hpA HKR.out _))
        clear p0 p1 p2 p3 p4 t0 t1 t2 t3 t4 hy hRn hk3 hbw1
        obtain ⟨p0, p1, p2, p3, p4⟩ := cells5 hp3
        obtain ⟨x0, x1, x2, x3, x4⟩ := cells5 hx3
        have k0 : W3.cell? ⟨Bk, 0, none⟩ = some (.int .i64 kerf) := cell_of_box HK3.out rfl
        have hBk3 : Bk < W3.heap.size := by omega
        have hBp3 : Bp < W3.heap.size := by omega
        have hg3 := HS3.out.lt
        have hx3l : wr.heap.size < W3.heap.size := by omega
        clear hp3 hx3 hs3 hJ3 hbw3
        by_cases hkl : k < ns.length
        · have hn : ns[k]? = some ns[k] := List.getElem?_eq_getElem hkl
          obtain ⟨nd, hnd⟩ : ∃ nd, ns[k] = nd := ⟨_, rfl⟩
          rw [hnd] at hn
          obtain ⟨bn, on, rfl, hbn, d0, d1⟩ := RdNd.at_ (HN.out.below HB3.out) hn
          have HDR := Lib.hid (show ns.drop k = nd :: ns.drop (k + 1) by rw [List.drop_eq_getElem_cons hkl, hnd])
          clear hn hnd
          gi_wp2
          refine ⟨trivial, (callsIn_wide.2 (isRip_any nd.kind _)).mono ?_⟩
          rintro e w4 ⟨he, rfl⟩
          subst he
          cases hrp : ripP nd.kind with
          | false =>
            have HRP := Lib.hid hrp
            clear hrp
            gi_wp2
            go_roundw
            case rel =>
              refine ⟨k + 1, st, pre ++ [(k, x)], g, cap, rfl, by simp, by omega, by omega, ?_, ?_, HS3.out.kept (Below.heap_alloc _ _ _ hg3), ?_, HB3.out.alloc (by omega) _, by simp only [World.size_alloc]; omega, .inl (by omega), hpA HP3.out _, hpA HK3.out _⟩
              · intro y hy
                obtain ⟨q1, q2⟩ := HLV.out y (List.mem_cons_of_mem _ hy)
                exact ⟨q1, by omega⟩
              · have h := HLE.out
                rw [HDR.out, plsP, ixs, pushP, HRP.out] at h
                simpa using h
              · exact HJ.out _ _ (fun b => (b = Bp ∨ b = Bk) ∨ b = g) W3 _ none HJ3.out (World.grownBy_alloc W3 _ none) nofun (fun b hb => .inl (.inl hb))
            case measure => simp [intOf]; omega
          | true =>
            have HRP := Lib.hid hrp
            clear hrp
            gi_wp2
            refine ⟨trivial, (callsIn_wide.2 (parts_any x.rect nd kerf _)).mono ?_⟩
            rintro e w5 ⟨he, hb5⟩
            obtain ⟨a, ha⟩ : ∃ a, part1 x.rect nd = a := ⟨_, rfl⟩
            obtain ⟨b, hb⟩ : ∃ b, partC x.rect nd kerf = b := ⟨_, rfl⟩
            obtain ⟨c2, hc2⟩ : ∃ c, part2 x.rect nd kerf = c := ⟨_, rfl⟩
            rw [ha, hb, hc2] at he
            unfold rcV at he
            subst he
            have HAB := Lib.hid (And.intro ha hc2)
            have hsz5 := hb5.size
            rw [World.size_alloc] at hsz5
            have hkp5 : ∀ j, j < W3.heap.size → w5.heap[j]? = W3.heap[j]? := fun j hj => (hb5.block j (by rw [World.size_alloc]; omega)).trans (Below.heap_alloc _ _ _ hj)
            obtain ⟨x0, x1, x2, x3, x4⟩ := cells5 ((hkp5 wr.heap.size hx3l).trans HX3.out)
            have HS5 := Lib.hid (HS3.out.kept (hkp5 g hg3))
            have HB5 := Lib.hid (HB3.out.trans (((Below.refl n₀ W3).alloc (by omega) _).trans (hb5.mono (by rw [World.size_alloc]; omega))))
            have hx5l : wr.heap.size < w5.heap.size := by omega
            obtain ⟨W6, hW6⟩ : ∃ W6, ((w5.alloc (.cells #[.int .i64 a.xa, .int .i64 a.xb, .int .i64 a.ya, .int .i64 a.yb] 25)).alloc (.cells #[.int .i64 b.xa, .int .i64 b.xb, .int .i64 b.ya, .int .i64 b.yb] 25)).alloc (.cells #[.int .i64 c2.xa, .int .i64 c2.xb, .int .i64 c2.ya, .int .i64 c2.yb] 25) = W6 := ⟨_, rfl⟩
            have hs6 : W6.heap.size = w5.heap.size + 1 + 1 + 1 := by rw [← hW6]; simp only [World.size_alloc]
            have hb56 : Below w5.heap.size w5 W6 := by rw [← hW6]; repeat (first | exact Below.refl _ _ | apply bel_alloc)
            have hb36 : Below W3.heap.size W3 W6 := (((Below.refl W3.heap.size W3).alloc (Nat.le_refl _) _).trans (hb5.mono (by rw [World.size_alloc]; omega))).trans (hb56.mono (by omega))
            obtain ⟨hl0, hl1⟩ := HLV.out x (List.mem_cons_self ..)
            obtain ⟨i0, hi0, hz0, hz1, hz2⟩ := info_parts pl_infoE
            obtain ⟨lv, hlv⟩ : ∃ lv, x.level + 1 = lv := ⟨_, rfl⟩
            have HLV1 := Lib.hid hlv
            have HB36 := Lib.hid hb36
            have HS6 := Lib.hid (HS5.out.kept (hb56.block g (by omega)))
            have HW6 := Lib.hid hW6
            have hm6 : ∀ u ∈ plCells ⟨c2, lv⟩ ++ plCells ⟨a, lv⟩, u.oneCell' = true := by
              intro u hu
              simp only [plCells, List.cons_append, List.nil_append, List.mem_cons, List.not_mem_nil, or_false] at hu
              rcases hu with rfl | rfl | rfl | rfl | rfl | rfl | rfl | rfl | rfl | rfl <;> rfl
            have HM6 := Lib.hid hm6
            have HN6 := Lib.hid (show (W6.alloc (.cells (plCells ⟨c2, lv⟩ ++ plCells ⟨a, lv⟩).toArray 88)).heap[w5.heap.size + 1 + 1 + 1]? = some (.cells (plCells ⟨c2, lv⟩ ++ plCells ⟨a, lv⟩).toArray 88 (0, 0)) from hs6 ▸ heap_alloc_last W6 _)
            have ha6 : W6.heap[w5.heap.size]? = some (.cells #[.int .i64 a.xa, .int .i64 a.xb, .int .i64 a.ya, .int .i64 a.yb] 25 (0, 0)) := by rw [← hW6]; exact hpA (hpA (heap_alloc_last w5 _) _) _
            have hc6 : W6.heap[w5.heap.size + 1 + 1]? = some (.cells #[.int .i64 c2.xa, .int .i64 c2.xb, .int .i64 c2.ya, .int .i64 c2.yb] 25 (0, 0)) := by
              rw [← hW6]
              have h := heap_alloc_last ((w5.alloc (.cells #[.int .i64 a.xa, .int .i64 a.xb, .int .i64 a.ya, .int .i64 a.yb] 25)).alloc (.cells #[.int .i64 b.xa, .int .i64 b.xb, .int .i64 b.ya, .int .i64 b.yb] 25)) (.cells #[.int .i64 c2.xa, .int .i64 c2.xb, .int .i64 c2.ya, .int .i64 c2.yb] 25)
              simp only [World.size_alloc] at h
              exact h
            obtain ⟨ya0, ya1, ya2, ya3⟩ := cells4 ha6
            obtain ⟨yc0, yc1, yc2, yc3⟩ := cells4 hc6
            have yx : W6.cell? ⟨wr.heap.size, 4, none⟩ = some (.int .i64 x.level) := (cells5 ((hb56.block _ hx5l).trans ((hkp5 wr.heap.size hx3l).trans HX3.out))).2.2.2.2
            clear ha hb hc2 hb5 d0 d1 p0 p1 p2 p3 p4 k0 hkp5 hb36 hb56 hm6 ha6 hc6 x0 x1 x2 x3
            gi_wp2_with (gi_at_builtin; refine wpListIn_append_lies _ (by rfl) _ _ 131 (by rfl) W.heap.size 88 i0 _ 5 40 Tryd.underlying131 hi0 hz0 hz1 hz2 rfl (by decide) (.slice (some ⟨g, 0, none⟩) st.length cap) st.length (plsCells st.reverse) (by rfl) (World.ownsRow.alloc HS6.out _) ⟨w5.heap.size + 1 + 1 + 1, 0, none⟩ 2 2 (plCells ⟨c2, lv⟩ ++ plCells ⟨a, lv⟩) (by rfl) (by rfl) (World.news_of_block (cs := (plCells ⟨c2, lv⟩ ++ plCells ⟨a, lv⟩).toArray) (t := 88) (fr := (0, 0)) HN6.out) HM6.out (by decide) (by simp only [maxLen]; omega) (by omega) (by rw [World.size_alloc]; omega) _ rfl ?_; intro g7 cap7 w7 hown7 hgrow hat hlt7; have HO7 := Lib.hid hown7; have HG7 := Lib.hid hgrow; have HAT := Lib.hid hat; have HLT7 := Lib.hid hlt7; clear hown7 hgrow hat hlt7)
            have hg37 : W3.grownBy w7 (some g) := gb_ofBelow (HB36.out.trans (((Below.refl W6.heap.size W6).alloc (Nat.le_refl _) _).mono HB36.out.size)) HG7.out
            refine ⟨⟨k + 1, ⟨a, lv⟩ :: ⟨c2, lv⟩ :: st, pre ++ [(k, x)], g7, cap7, by simp only [List.length_cons], by simp, by omega, by simp only [List.length_cons]; omega, ?_, ?_, ?_, ?_, ?_, ?_, .inl (by omega), (hg37.block Bp hBp3 (fun e => by injection e; omega)).trans HP3.out, (hg37.block Bk hBk3 (fun e => by injection e; omega)).trans HK3.out⟩, by simp [intOf]; omega⟩
            · intro y hy
              simp only [List.mem_cons] at hy
              have := HLV1.out
              rcases hy with rfl | rfl | hy
              · simp only; omega
              · simp only; omega
              · obtain ⟨q1, q2⟩ := HLV.out y (List.mem_cons_of_mem _ hy)
                exact ⟨q1, by omega⟩
            · have h := HLE.out
              rw [HDR.out, plsP, ixs, pushP, if_pos HRP.out, HAB.out.1, HAB.out.2, HLV1.out] at h
              simpa using h
            · have h := HO7.out
              unfold StackAt
              rw [List.reverse_cons, List.reverse_cons, plsCells_snoc, plsCells_snoc, List.append_assoc]
              exact h
            · exact HJ.out _ _ (fun b => (b = Bp ∨ b = Bk) ∨ b = g7) W3 w7 (some g) HJ3.out hg37 (fun r e => .inl (.inr (by injection e with e; exact e.symm))) (fun b hb => by
                rcases hb with hb | hb
                · exact .inl (.inl (.inl hb))
                subst hb
                rcases HAT.out with h | h
                · left; left; right
                  simpa [Value.ownBlock] using h.symm
                · right
                  refine ⟨?_, HLT7.out⟩
                  have := HB36.out.size
                  rw [h]
                  simp only [World.size_alloc]
                  omega)
            · exact HB3.out.grown hg37 (by omega) (fun j e => by injection e with e; rw [← e]; exact Nat.le_trans hB3 HS6.out.parts.1)
            · have := hg37.size; omega
        · obtain rfl : k = ns.length := by omega
          gi_wp2
          refine bodyPost_ret (results_none rfl _ _ _) rfl ⟨⟨_, rfl⟩, .inl ⟨fun b => ((b = Bp ∨ b = Bk) ∨ b = g) ∨ b = wr.heap.size, ?_⟩⟩
          have h := HLE.out
          have hd : ns.drop ns.length = [] := List.drop_eq_nil_of_le (Nat.le_refl _)
          rw [hd, plsP, ixs, ixs] at h
          rw [h]
          exact HJ3.out
      · gi_wp2
        refine bodyPost_ret (results_none rfl _ _ _) rfl ?_
        exact ⟨⟨_, rfl⟩, .inr ⟨_, ⟨ixs (k + 1) R, by rw [HLE.out, HR.out, ixs]; simp⟩, hJx3⟩⟩


set_option maxHeartbeats 1000000 in
theorem places_in (n : Nat) (r : Rc) (nv : Value) (_hnv : nv.oneCell' = true) (kerf : Int) (w : World) : CallsIn Fence.wide n Tryd.prog 47 #[.agg #[.int .i64 r.xa, .int .i64 r.xb, .int .i64 r.ya, .int .i64 r.yb, nv], .int .i64 kerf] w fun e w' =>
    e = .returned (.func (.func 83) #[] #[.pointer (some ⟨w.heap.size, 0, none⟩), .pointer (some ⟨w.heap.size + 1, 0, none⟩)]) ∧ w' = (w.alloc (.cells #[.int .i64 r.xa, .int .i64 r.xb, .int .i64 r.ya, .int .i64 r.yb, nv] 28)).alloc (.cells #[.int .i64 kerf] 3) := by
  refine callsIn_of_wp Tryd.func47 rfl trivial ?_ rfl
  simp only [Tryd.ntmps47, List.size_toArray, List.length_cons, List.length_nil, Nat.reduceAdd, Nat.reduceSub, Array.replicate_succ, Array.replicate_zero, List.push_toArray, List.append_toArray, List.nil_append, List.cons_append]
  gi_wp2
  go_ret
  exact ⟨rfl, rfl⟩

/-- The contract of the iterator. -/
theorem places_seq (n n₀ Bp Bk : Nat) (hn1 : 1 ≤ n) (r : Rc) (ns : List Nd) (nv : Value) (kerf : Int) (w : World) (hp : PatAt w Bp r nv) (hk : w.heap[Bk]? = some (.cells #[.int .i64 kerf] 3 (0, 0))) (hB : Bp < w.heap.size ∧ Bk < w.heap.size ∧ n₀ ≤ w.heap.size) (hns : RdNd w n₀ nv ns) (hlen : ns.length ≤ 127) :
    SeqX Fence.wide n Tryd.prog 83 #[.pointer (some ⟨Bp, 0, none⟩), .pointer (some ⟨Bk, 0, none⟩)] (fun x : Nat × Plc => #[.int .i64 x.1, plV x.2]) n₀ (fun b => b = Bp ∨ b = Bk) (ixs 0 (plsP kerf ns [⟨r, 1⟩])) w := fun l J Jx W hb hJ hY h0 => by
  have hsz := hb.size
  exact places1_in n l Bp Bk n₀ hn1 r ns nv kerf J Jx hJ hY W ((hb.block Bp hB.1).trans hp) ((hb.block Bk hB.2.1).trans hk) ⟨by omega, by omega, by omega⟩ (hns.below (hb.mono hB.2.2)) hlen h0

end Go.Proofs.YtbmcfodhjibooaaDoor
