/-
  The contract of pattern's Row.
-/
import Derived.Test.YtbmcfodhjibooaaDoorPaH
import Derived.Test.YtbmcfodhjibooaaDoorAppRow
namespace Saw
def gapN (axis kerf a edge : Int) : List Nd := if a ≠ edge then [⟨axis, a - kerf⟩, ⟨0, 0⟩] else []
def cutN (axis b hi : Int) : List Nd := if b ≠ hi then [⟨axis, b⟩] else []
def rowEnd (ended : Bool) (acc : List Nd) : List Nd × Int :=
  if 127 < (if ended then acc else acc ++ [⟨0, 0⟩]).length then ([], 4) else (if ended then acc else acc ++ [⟨0, 0⟩], 0)
def rowGo (axis kerf hi : Int) : List (Int × Int) → List (List Nd) → Int → Bool → List Nd → List Nd × Int
  | [], _, _, ended, acc => rowEnd ended acc
  | s :: sp, ps, edge, ended, acc =>
    if s.2 ≤ s.1 then ([], 19)
    else if ended = true ∨ (s.1 ≠ edge ∧ s.1 < edge + kerf + 1) then ([], 11)
    else if hi < s.2 then ([], 20)
    else rowGo axis kerf hi sp (ps.drop 1) (min (s.2 + kerf) hi) (decide (s.2 = hi)) (acc ++ (gapN axis kerf s.1 edge ++ (cutN axis s.2 hi ++ ps.headD [])))
def rowP (r : Rc) (axis kerf : Int) (sp : List (Int × Int)) (ps : List (List Nd)) : List Nd × Int :=
  if ripP axis = false then ([], 10)
  else if frameP r = false ∨ sp.length ≠ ps.length then ([], 19)
  else if kerf < 0 ∨ 20 < kerf then ([], 9)
  else rowGo axis kerf (highP r axis) sp ps (lowP r axis) false []
theorem rowGo_ended (axis kerf hi : Int) (sp : List (Int × Int)) (ps : List (List Nd)) (e1 e2 : Int) (acc : List Nd) : rowGo axis kerf hi sp ps e1 true acc = rowGo axis kerf hi sp ps e2 true acc := by
  cases sp with
  | nil => rfl
  | cons s sp =>
    rw [rowGo, rowGo]
    split
    · rfl
    · rw [if_pos (.inl rfl), if_pos (.inl rfl)]
end Saw
namespace Go.Proofs.YtbmcfodhjibooaaDoor
open Go.RowKit Saw Go.Sort

theorem nd_infoE : (Tryd.prog.info? 64).map (fun i => (i.zero, i.size, i.bytes)) = some (some (.agg #[.int .i64 0, .int .i64 0]), 2, 16) := by kernel_rfl
theorem nd_mem (l : List Nd) : ∀ u ∈ ndCells l, u.oneCell' = true := by
  intro u hu
  simp only [ndCells, List.mem_flatMap, List.mem_cons, List.not_mem_nil, or_false] at hu
  obtain ⟨n, _, rfl | rfl⟩ := hu <;> rfl
theorem ndCells_app (a b : List Nd) : ndCells (a ++ b) = ndCells a ++ ndCells b := by simp [ndCells]

theorem own_slice {W : World} {B size n : Nat} {e : TypeId} {v : Value} {cs : List Value} (h : W.ownsRow B e size v n cs) : ∃ A m c, v = .slice A m c := by
  rcases h.2 with ⟨rfl, _⟩ | ⟨g, cap, cur, rfl, _⟩
  · exact ⟨_, _, _, rfl⟩
  · exact ⟨_, _, _, rfl⟩
/-- The nodes and their count while a row is made: boxes M and M + 1. -/
def RowSt (W : World) (M B : Nat) (acc : List Nd) : Prop :=
  W.heap[M + 1]? = some (.cells #[.int .i64 acc.length] 3 (0, 0)) ∧ ∃ v cur, W.heap[M]? = some (.cells #[v] 26 (0, 0)) ∧ W.ownsRow B 64 2 v cur.length (ndCells cur) ∧ (acc.length ≤ 127 → cur = acc) ∧ cur.length ≤ 127
theorem RowSt.kept {W W' : World} {M B : Nat} {acc : List Nd} (h : RowSt W M B acc) (hb : Below W.heap.size W W') : RowSt W' M B acc := by
  obtain ⟨h1, v, cur, h2, h3, h4, h5⟩ := h
  refine ⟨(hb.block _ (Array.getElem?_eq_some_iff.1 h1).1).trans h1, v, cur, (hb.block _ (Array.getElem?_eq_some_iff.1 h2).1).trans h2, h3.kept (row := none) ⟨hb.os, hb.tape, hb.output, hb.size, fun k hk _ => hb.block k hk⟩ ?_, h4, h5⟩
  cases v.ownBlock <;> simp
def AddPost (W : World) (M B : Nat) (acc : List Nd) (e : Ending) (w' : World) : Prop :=
  (∃ v, e = .returned v) ∧ RowSt w' M B acc ∧ Below M W w' ∧ W.heap.size ≤ w'.heap.size ∧ ∀ b cs t fr, M + 1 < b → W.heap[b]? = some (.cells cs t fr) → t ≠ 64 → w'.heap[b]? = some (.cells cs t fr)

set_option maxRecDepth 100000 in
set_option maxHeartbeats 1000000 in
theorem add_any (lv : Value) (l acc : List Nd) (M B : Nat) (W : World) (hst : RowSt W M B acc) (hM : M + 1 < B) (hBW : B ≤ W.heap.size) (Bl : Nat) (hrd : ∀ v, RdNd (W.setCell ⟨M + 1, 0, none⟩ v) Bl lv l) (h1 : acc.length ≤ 100000) (h2 : l.length ≤ 100000) :
    Calls Tryd.prog 52 #[lv, .pointer (some ⟨M + 1, 0, none⟩), .pointer (some ⟨M, 0, none⟩)] W (AddPost W M B (acc ++ l)) := by
  obtain ⟨A, c, rfl, hc, hml⟩ := (hrd undef).form
  obtain ⟨hc1, v, cur, hv, hown, hcur, hlen⟩ := hst
  have c1 := cell_of_box (j := 0) hc1 rfl
  have f1 := frz hc1 0
  obtain ⟨n, hn⟩ : ∃ n : Int, (acc.length : Int) + l.length = n := ⟨_, rfl⟩
  obtain ⟨W1, hW1⟩ : ∃ W1, W.setCell ⟨M + 1, 0, none⟩ (.int .i64 n) = W1 := ⟨_, rfl⟩
  have hs1 : W1.heap.size = W.heap.size := by rw [← hW1]; simp [World.setCell]
  have hg1 : W.grownBy W1 (some (M + 1)) := by
    rw [← hW1]
    exact ⟨rfl, rfl, rfl, by simp [World.setCell], fun k hk hne => Below.heap_setCell _ _ _ _ (fun e => hne (by rw [e]))⟩
  have hMW : M < W.heap.size := by omega
  have hv1 : W1.heap[M]? = some (.cells #[v] 26 (0, 0)) := (hg1.block M hMW (fun e => by injection e; omega)).trans hv
  have hc2 : W1.heap[M + 1]? = some (.cells #[.int .i64 n] 3 (0, 0)) := by rw [← hW1]; exact boxSet hc1 _ rfl
  have hvb : v.ownBlock ≠ some (M + 1) := fun e => by have := (own_at hown e).1; omega
  have hvM : v.ownBlock ≠ some M := fun e => by have := (own_at hown e).1; omega
  have hown1 : W1.ownsRow B 64 2 v cur.length (ndCells cur) := hown.kept hg1 (.inr hvb)
  have hrd1 : RdNd W1 Bl (.slice A l.length c) l := by rw [← hW1]; exact hrd _
  have d0 := cell_of_box (j := 0) hv1 rfl
  have d1 := cell_of_box (j := 0) hc2 rfl
  have d2 := frz hv1 0
  have HW1 := Lib.hid hW1
  have HO1 := Lib.hid hown1
  have HRD := Lib.hid hrd1
  have HG1 := Lib.hid hg1
  have HV1 := Lib.hid hv1
  have HC2 := Lib.hid hc2
  have HNV := Lib.hid (And.intro hvb hvM)
  have HO := Lib.hid hown
  have HN := Lib.hid hn
  have HCU := Lib.hid hcur
  clear hrd hv hown hcur hc1 hg1 hv1 hc2 hown1 hrd1 hvb hvM
  obtain ⟨i0, hi0, hz0, hz1, hz2⟩ := info_parts nd_infoE
  have HNB := Lib.hid (show n = acc.length + l.length from hn.symm)
  have hn0 : 0 ≤ n := by omega
  have hn1 : n ≤ 200000 := by omega
  have hM1W : M + 1 < W.heap.size := by omega
  by_cases hle : n ≤ 127
  · have hcl : cur.length = acc.length := by rw [HCU.out (by omega)]
    go_enter Tryd.func52, Tryd.ntmps52
    go_wp2_with (at_builtin; refine wpList_append_rows _ (by rfl) (.tmp 10) (.tmp 11) 26 (by rfl) B 64 i0 _ 2 16 Tryd.underlying26 hi0 hz0 hz1 hz2 rfl (by omega) v cur.length (ndCells cur) (by rfl) HO1.out (.slice A l.length c) (by rfl) l.length Bl (ndCells l) HRD.out (nd_mem l) (by simp only [maxLen]; omega) (by omega) (by omega) ?_; intro v7 w7 hown7 hgrow; obtain ⟨A7, n7, c7, rfl⟩ := own_slice hown7; have HO7 := Lib.hid hown7; have HG7 := Lib.hid hgrow; (have d7 : w7.cell? ⟨M, 0, none⟩ = some v := own_cell hgrow HO1.out HV1.out (by omega)); (have d8 : w7.frozen? ⟨M, 0, none⟩ = false := own_frz hgrow HO1.out HV1.out (by omega)); clear hown7 hgrow)
    have hM7 := own_heap HG7.out HO1.out HV1.out (by omega)
    have hc7 := own_heap HG7.out HO1.out HC2.out (by omega)
    have hgs : w7.grownBy (w7.setCell ⟨M, 0, none⟩ (.slice A7 n7 c7)) (some M) := ⟨rfl, rfl, rfl, by simp [World.setCell], fun k hk hne => Below.heap_setCell _ _ _ _ (fun e => hne (by rw [e]))⟩
    have hs7 := HG7.out.size
    refine bodyPost_ret (results_none rfl _ _ _) rfl ⟨⟨_, rfl⟩, ⟨?_, _, acc ++ l, boxSet hM7 _ rfl, ?_, fun _ => rfl, by rw [List.length_append]; have := HNB.out; omega⟩, ?_, ?_, ?_⟩
    · rw [List.length_append]
      rw [(hgs.block (M + 1) (by omega) (fun e => by injection e; omega)), hc7, HNB.out, Int.natCast_add]
    · have h := HO7.out.kept hgs (.inr (fun e => by have := (own_at HO7.out e).1; omega))
      rw [HCU.out (by have := HNB.out; omega), ← ndCells_app] at h
      rw [List.length_append]
      exact h
    · exact (((Below.refl M W).grown HG1.out (by omega) (fun k e => by injection e; omega)).grown HG7.out (by omega) (fun k e => by have := (own_at HO1.out e).1; omega)).grown hgs (by omega) (fun k e => by injection e; omega)
    · have := hgs.size; omega
    · intro b cs t fr hb hbl ht
      have hbW := (Array.getElem?_eq_some_iff.1 hbl).1
      have hne : v.ownBlock ≠ some b := fun e => by
        obtain ⟨_, cur2, hc2⟩ := own_at HO.out e
        rw [hc2] at hbl
        injection hbl with hbl
        injection hbl with _ h2 _
        exact ht h2.symm
      rw [hgs.block b (by omega) (fun e => by injection e; omega), HG7.out.block b (by omega) (fun e => hne e.symm), HG1.out.block b hbW (fun e => by injection e; omega)]
      exact hbl
  · go_enter Tryd.func52, Tryd.ntmps52
    go_wp2_with fail
    refine bodyPost_ret (results_none rfl _ _ _) rfl ⟨⟨_, rfl⟩, ?_, ?_, ?_, ?_⟩
    · exact ⟨by rw [HC2.out, List.length_append]; simp only [HNB.out, Int.natCast_add], v, cur, HV1.out, HO1.out, fun h => by rw [List.length_append] at h; omega, hlen⟩
    · exact (Below.refl M W).grown HG1.out (by omega) (fun k e => by injection e; omega)
    · omega
    · intro b cs t fr hb hbl ht
      exact (HG1.out.block b (Array.getElem?_eq_some_iff.1 hbl).1 (fun e => by injection e; omega)).trans hbl

def spsCells (l : List (Int × Int)) : List Value := l.flatMap fun s => [.int .i64 s.1, .int .i64 s.2]
def RdSp (w : World) (B : Nat) (v : Value) (l : List (Int × Int)) : Prop := Rd w B 2 v l.length (spsCells l)
theorem sps_at : ∀ (l : List (Int × Int)) (i : Nat) (n : Int × Int), l[i]? = some n → (spsCells l)[i * 2]? = some (.int .i64 n.1) ∧ (spsCells l)[i * 2 + 1]? = some (.int .i64 n.2)
  | [], i, n, h => by simp at h
  | m :: r, 0, n, h => by
    simp only [List.getElem?_cons_zero, Option.some.injEq] at h
    subst h
    exact ⟨rfl, rfl⟩
  | m :: r, i + 1, n, h => by
    simp only [List.getElem?_cons_succ] at h
    obtain ⟨h1, h2⟩ := sps_at r i n h
    have e : ∀ j, (spsCells (m :: r))[(i + 1) * 2 + j]? = (spsCells r)[i * 2 + j]? := fun j => by
      rw [spsCells, List.flatMap_cons, List.getElem?_append_right (by simp; omega)]
      simp only [List.length_cons, List.length_nil]
      rw [show (i + 1) * 2 + j - (0 + 1 + 1) = i * 2 + j by omega]
      rfl
    exact ⟨(e 0).trans h1, (e 1).trans h2⟩
theorem RdSp.form {w : World} {B : Nat} {v : Value} {l : List (Int × Int)} (h : RdSp w B v l) : ∃ A c, v = .slice A l.length c ∧ l.length ≤ c ∧ l.length ≤ maxLen := by
  obtain ⟨_, h2, A, c, rfl, hc, _⟩ := h
  exact ⟨A, c, rfl, hc, h2⟩
theorem RdSp.at_ {w : World} {B : Nat} {A : Option Addr} {n c : Nat} {l : List (Int × Int)} (h : RdSp w B (.slice A n c) l) {i : Nat} {x : Int × Int} (hx : l[i]? = some x) :
    ∃ b off, A = some ⟨b, off, none⟩ ∧ b < B ∧ w.cell? ⟨b, off + i * 2, none⟩ = some (.int .i64 x.1) ∧ w.cell? ⟨b, off + i * 2 + 1, none⟩ = some (.int .i64 x.2) := by
  obtain ⟨_, _, A', c', he, _, h3⟩ := h
  injection he with h1 h2 h4
  subst h1
  obtain ⟨b, off, rfl, hb, hcell⟩ := h3 (by have := (List.getElem?_eq_some_iff.1 hx).1; omega)
  obtain ⟨q1, q2⟩ := sps_at l i x hx
  exact ⟨b, off, rfl, hb, hcell _ _ q1, by rw [Nat.add_assoc]; exact hcell _ _ q2⟩
/-- A slice of slices of nodes. -/
def RdPs (w : World) (B : Nat) (v : Value) (l : List (List Nd)) : Prop := ∃ vs : List Value, Rd w B 1 v l.length vs ∧ ∀ (i : Nat) (x : List Nd), l[i]? = some x → ∃ u, vs[i]? = some u ∧ RdNd w B u x
theorem RdPs.form {w : World} {B : Nat} {v : Value} {l : List (List Nd)} (h : RdPs w B v l) : ∃ A c, v = .slice A l.length c ∧ l.length ≤ c ∧ l.length ≤ maxLen := by
  obtain ⟨vs, ⟨_, h2, A, c, rfl, hc, _⟩, _⟩ := h
  exact ⟨A, c, rfl, hc, h2⟩
theorem RdPs.below {w w' : World} {B : Nat} {v : Value} {l : List (List Nd)} (h : RdPs w B v l) (hb : Below B w w') : RdPs w' B v l := by
  obtain ⟨vs, h1, h2⟩ := h
  exact ⟨vs, h1.below hb, fun i x hx => by obtain ⟨u, q1, q2⟩ := h2 i x hx; exact ⟨u, q1, q2.below hb⟩⟩
theorem RdPs.more {w : World} {B B' : Nat} {v : Value} {l : List (List Nd)} (h : RdPs w B v l) (hB : B ≤ B') : RdPs w B' v l := by
  obtain ⟨vs, h1, h2⟩ := h
  exact ⟨vs, h1.more hB, fun i x hx => by obtain ⟨u, q1, q2⟩ := h2 i x hx; exact ⟨u, q1, q2.more hB⟩⟩
theorem RdPs.next {w w' : World} {v : Value} {l : List (List Nd)} (h : RdPs w w.heap.size v l) (hb : Below w.heap.size w w') : RdPs w' w'.heap.size v l := (h.below hb).more hb.size
theorem RdSp.below {w w' : World} {B : Nat} {v : Value} {l : List (Int × Int)} (h : RdSp w B v l) (hb : Below B w w') : RdSp w' B v l := Rd.below h hb
theorem RdSp.next {w w' : World} {v : Value} {l : List (Int × Int)} (h : RdSp w w.heap.size v l) (hb : Below w.heap.size w w') : RdSp w' w'.heap.size v l := Rd.next h hb
theorem RdPs.at_ {w : World} {B : Nat} {A : Option Addr} {n c : Nat} {l : List (List Nd)} (h : RdPs w B (.slice A n c) l) {i : Nat} {x : List Nd} (hx : l[i]? = some x) :
    ∃ b off A1 c1, A = some ⟨b, off, none⟩ ∧ b < B ∧ w.cell? ⟨b, off + i, none⟩ = some (.slice A1 x.length c1) ∧ RdNd w B (.slice A1 x.length c1) x := by
  obtain ⟨vs, ⟨_, _, A', c', he, _, h3⟩, h4⟩ := h
  injection he with h1 h2 h5
  subst h1
  obtain ⟨b, off, rfl, hb, hcell⟩ := h3 (by have := (List.getElem?_eq_some_iff.1 hx).1; omega)
  obtain ⟨u, hu, hrd⟩ := h4 i x hx
  obtain ⟨A1, c1, rfl, _, _⟩ := hrd.form
  exact ⟨b, off, A1, c1, rfl, hb, hcell i _ hu, hrd⟩
def RowPost (w : World) (p : List Nd × Int) (e : Ending) (w' : World) : Prop := ∃ v, e = .returned (.tuple #[v, .int .i64 p.2]) ∧ RdNd w' w'.heap.size v p.1 ∧ Below w.heap.size w w'
theorem RdNd.nil (w : World) (B : Nat) : RdNd w B (.slice none 0 0) [] := Rd.none_

/-- A literal of nodes, laid last. -/
theorem lit_rd {W : World} {M : Nat} (l : List Nd) (hl : l.length ≤ 2) (hM : M + 1 < W.heap.size) (v : Value) : RdNd ((W.alloc (.cells (ndCells l).toArray 64)).setCell ⟨M + 1, 0, none⟩ v) (W.heap.size + 1) (.slice (some ⟨W.heap.size, 0, none⟩) l.length l.length) l := by
  have h1 := ownsRow_new (w := W) (base := W.heap.size) (len := l.length) (size := 2) (e := 64) (cs := ndCells l) (Nat.le_refl _) (ndCells_length l) (by simp only [maxLen]; omega)
  have h2 := Rd.of_own (h1.kept (w' := (W.alloc (.cells (ndCells l).toArray 64)).setCell ⟨M + 1, 0, none⟩ v) (row := some (M + 1)) ⟨rfl, rfl, rfl, by simp [World.setCell], fun k hk hne => Below.heap_setCell _ _ _ _ (fun e => hne (by rw [e]))⟩ (.inr (fun e => by
    have e2 : some W.heap.size = some (M + 1) := e
    injection e2 with e2
    omega)))
  have hs : ((W.alloc (.cells (ndCells l).toArray 64)).setCell ⟨M + 1, 0, none⟩ v).heap.size = W.heap.size + 1 := by simp [World.setCell]
  rw [hs] at h2
  exact h2

set_option maxRecDepth 100000 in
set_option maxHeartbeats 4000000 in
theorem row_any (r : Rc) (axis kerf : Int) (sp : List (Int × Int)) (ps : List (List Nd)) (sv pv : Value) (w : World) (hsp : RdSp w w.heap.size sv sp) (hps : RdPs w w.heap.size pv ps) (h1 : sp.length ≤ 100) (h2 : ∀ x ∈ ps, x.length ≤ 200) (_h3 : ps.length ≤ 100) :
    Calls Tryd.prog 24 #[.agg #[.int .i64 r.xa, .int .i64 r.xb, .int .i64 r.ya, .int .i64 r.yb], .int .i64 axis, .int .i64 kerf, sv, pv] w (RowPost w (rowP r axis kerf sp ps)) := by
  obtain ⟨A, c, rfl, hc, hml⟩ := hsp.form
  obtain ⟨A2, c2, rfl, hc2, hml2⟩ := hps.form
  unfold maxLen at hml hml2
  obtain ⟨q, hq⟩ : ∃ q, rowP r axis kerf sp ps = q := ⟨_, rfl⟩
  rw [hq]
  unfold rowP at hq
  have HQ := Lib.hid hq
  have HSP := Lib.hid hsp
  have HPS := Lib.hid hps
  have HPL := Lib.hid h2
  have HB := Lib.hid (bel_alloc (ob := .cells #[.int .i64 r.xa, .int .i64 r.xb, .int .i64 r.ya, .int .i64 r.yb] 25) (Below.refl w.heap.size w))
  clear hq hsp hps h2
  obtain ⟨fr, hfr⟩ : ∃ fr, frameP r = fr := ⟨_, rfl⟩
  have HIF := Lib.hid (fun W => hfr ▸ isFrame_rc r W)
  have HRC := Lib.hid (heap_alloc_last w (.cells #[.int .i64 r.xa, .int .i64 r.xb, .int .i64 r.ya, .int .i64 r.yb] 25))
  cases hrp : ripP axis with
  | false =>
    have hz : q = ([], 10) := by rw [← HQ.out, if_pos hrp]
    subst hz
    clear HQ
    go_enter Tryd.func24, Tryd.ntmps24
    go_wp2_with (go_at_call 48; refine (isRip_any _ _).mono ?_; rintro e w1 ⟨he, rfl⟩; rw [hrp] at he; subst he)
    refine bodyPost_ret (v := .tuple #[.slice none 0 0, .int .i64 10]) (by simp [results, Tryd.results24, go_sem]) rfl ⟨_, rfl, RdNd.nil _ _, HB.out⟩
  | true =>
    have HQ1 := Lib.hid (show (if frameP r = false ∨ sp.length ≠ ps.length then ([], 19) else if kerf < 0 ∨ 20 < kerf then ([], 9) else rowGo axis kerf (highP r axis) sp ps (lowP r axis) false []) = q by
      have h := HQ.out
      rw [if_neg (by rw [hrp]; decide)] at h
      exact h)
    clear HQ
    cases fr with
    | false =>
      have hz : q = ([], 19) := by rw [← HQ1.out, if_pos (.inl hfr)]
      subst hz
      clear HQ1 hfr
      go_enter Tryd.func24, Tryd.ntmps24
      go_wp2_with (first
        | (go_at_call 48; refine (isRip_any _ _).mono ?_; rintro e w1 ⟨he, rfl⟩; rw [hrp] at he; subst he)
        | (go_at_call 51; refine (HIF.out _).mono ?_; rintro e w1 ⟨he, hb1⟩; subst he; have HB1 := Lib.hid (HB.out.trans (hb1.mono (by simp only [World.size_alloc]; omega))); clear hb1))
      refine bodyPost_ret (v := .tuple #[.slice none 0 0, .int .i64 19]) (by simp [results, Tryd.results24, go_sem]) rfl ⟨_, rfl, RdNd.nil _ _, HB1.out⟩
    | true =>
      by_cases hln : sp.length ≠ ps.length
      · have hz : q = ([], 19) := by rw [← HQ1.out, if_pos (.inr hln)]
        subst hz
        have hlb : ((sp.length : Int) != (ps.length : Int)) = true := by rw [bne_iff_ne]; omega
        clear HQ1 hfr hln
        go_enter Tryd.func24, Tryd.ntmps24
        go_wp2_with (first
          | (go_at_call 48; refine (isRip_any _ _).mono ?_; rintro e w1 ⟨he, rfl⟩; rw [hrp] at he; subst he)
          | (go_at_call 51; refine (HIF.out _).mono ?_; rintro e w1 ⟨he, hb1⟩; subst he; have HB1 := Lib.hid (HB.out.trans (hb1.mono (by simp only [World.size_alloc]; omega))); clear hb1))
        refine bodyPost_ret (v := .tuple #[.slice none 0 0, .int .i64 19]) (by simp [results, Tryd.results24, go_sem]) rfl ⟨_, rfl, RdNd.nil _ _, HB1.out⟩
      · have hlb : ((sp.length : Int) != (ps.length : Int)) = false := by rw [bne_eq_false_iff_eq]; omega
        have hll : sp.length = ps.length := by omega
        have HLL := Lib.hid hll
        have HFR := Lib.hid hfr
        have HQ2 := Lib.hid (show (if kerf < 0 ∨ 20 < kerf then ([], 9) else rowGo axis kerf (highP r axis) sp ps (lowP r axis) false []) = q by
          have h := HQ1.out
          rw [if_neg (by rw [hfr]; intro h2; rcases h2 with h2 | h2; cases h2; exact hln h2)] at h
          exact h)
        clear HQ1 hfr hln hll
        by_cases k0 : kerf < 0
        · have hz : q = ([], 9) := by rw [← HQ2.out, if_pos (.inl k0)]
          subst hz
          clear HQ2
          go_enter Tryd.func24, Tryd.ntmps24
          go_wp2_with (first
            | (go_at_call 48; refine (isRip_any _ _).mono ?_; rintro e w1 ⟨he, rfl⟩; rw [hrp] at he; subst he)
            | (go_at_call 51; refine (HIF.out _).mono ?_; rintro e w1 ⟨he, hb1⟩; subst he; have HB1 := Lib.hid (HB.out.trans (hb1.mono (by simp only [World.size_alloc]; omega))); clear hb1))
          refine bodyPost_ret (v := .tuple #[.slice none 0 0, .int .i64 9]) (by simp [results, Tryd.results24, go_sem]) rfl ⟨_, rfl, RdNd.nil _ _, HB1.out⟩
        by_cases k20 : 20 < kerf
        · have hz : q = ([], 9) := by rw [← HQ2.out, if_pos (.inr k20)]
          subst hz
          clear HQ2
          go_enter Tryd.func24, Tryd.ntmps24
          go_wp2_with (first
            | (go_at_call 48; refine (isRip_any _ _).mono ?_; rintro e w1 ⟨he, rfl⟩; rw [hrp] at he; subst he)
            | (go_at_call 51; refine (HIF.out _).mono ?_; rintro e w1 ⟨he, hb1⟩; subst he; have HB1 := Lib.hid (HB.out.trans (hb1.mono (by simp only [World.size_alloc]; omega))); clear hb1))
          refine bodyPost_ret (v := .tuple #[.slice none 0 0, .int .i64 9]) (by simp [results, Tryd.results24, go_sem]) rfl ⟨_, rfl, RdNd.nil _ _, HB1.out⟩
        obtain ⟨lo, hlo⟩ : ∃ lo, lowP r axis = lo := ⟨_, rfl⟩
        obtain ⟨hi, hhi⟩ : ∃ hi, highP r axis = hi := ⟨_, rfl⟩
        have hlh : -600 ≤ lo ∧ lo < hi ∧ hi ≤ 600 := by
          have h := frameP_iff.1 HFR.out
          unfold lowP at hlo
          unfold highP at hhi
          split at hlo
          · rename_i e; rw [if_pos e] at hhi; omega
          · rename_i e; rw [if_neg e] at hhi; omega
        have HQ3 := Lib.hid (show rowGo axis kerf hi sp ps lo false [] = q by
          have h := HQ2.out
          rw [if_neg (by omega), hhi, hlo] at h
          exact h)
        have HLH := Lib.hid (And.intro hlo hhi)
        have hkf : 0 ≤ kerf ∧ kerf ≤ 20 := by omega
        clear HQ2 hlo hhi k0 k20
        go_enter Tryd.func24, Tryd.ntmps24
        go_wp2_with (go_at_call 48; refine (isRip_any _ _).mono ?_; rintro e w1 ⟨he, rfl⟩; rw [hrp] at he; subst he)
        refine (HIF.out _).mono ?_
        rintro e w1 ⟨he, hb1⟩
        subst he
        have HB1 := Lib.hid (HB.out.trans (hb1.mono (by simp only [World.size_alloc]; omega)))
        have hrc1 := (hb1.block w.heap.size (by simp only [World.size_alloc]; omega)).trans HRC.out
        obtain ⟨M, hM⟩ : ∃ M, w1.heap.size = M := ⟨_, rfl⟩
        have hNM : w.heap.size < M := by rw [← hM]; exact (Array.getElem?_eq_some_iff.1 hrc1).1
        obtain ⟨r0, r1, r2, r3⟩ := cells4 hrc1
        have HRC1 := Lib.hid hrc1
        clear hb1 hrc1
        go_wp2_with fail
        obtain ⟨W2, hW2⟩ : ∃ W2, (w1.alloc (.cells #[.slice none 0 0] 26)).alloc (.cells #[.int .i64 0] 3) = W2 := ⟨_, rfl⟩
        rw [hW2]
        have hs2 : W2.heap.size = M + 1 + 1 := by rw [← hW2]; simp only [World.size_alloc]; rw [hM]
        have hst2 : ∀ B, RowSt W2 M B [] := fun B => by
          refine ⟨?_, .slice none 0 0, [], ?_, ⟨rfl, .inl ⟨rfl, rfl⟩⟩, fun _ => rfl, by simp⟩
          · rw [← hW2, ← hM]
            have h := heap_alloc_last (w1.alloc (.cells #[.slice none 0 0] 26)) (.cells #[.int .i64 0] 3)
            rw [World.size_alloc] at h
            exact h
          · rw [← hW2, ← hM]
            exact hpA (heap_alloc_last w1 _) _
        have hb2 : Below w1.heap.size w1 W2 := by rw [← hW2]; repeat (first | exact Below.refl _ _ | apply bel_alloc)
        have HB2 := Lib.hid (HB1.out.trans (hb2.mono (by omega)))
        have HST2 := Lib.hid hst2
        clear hst2 hb2 r0 r1 r2 r3 hW2
        refine (along_any r axis _).mono ?_
        rintro e w3 ⟨he, hb3⟩
        rw [HLH.out.1, HLH.out.2] at he
        subst he
        have hs3 := hb3.size
        obtain ⟨K, hK⟩ : ∃ K, w3.heap.size = K := ⟨_, rfl⟩
        have hst3 := (HST2.out (K + 1)).kept (hb3.alloc hb3.size (.cells #[.int .i64 lo, .int .i64 hi] 23))
        have HB3 := Lib.hid ((HB2.out.trans (hb3.mono (by omega))).alloc (by omega) (.cells #[.int .i64 lo, .int .i64 hi] 23))
        have hk3 : (w3.alloc (.cells #[.int .i64 lo, .int .i64 hi] 23)).heap[K]? = some (.cells #[.int .i64 lo, .int .i64 hi] 23 (0, 0)) := hK ▸ heap_alloc_last w3 _
        have HK3 := Lib.hid hk3
        have HST3 := Lib.hid hst3
        have hMK : M + 1 < K := by omega
        clear hb3 hst3 hk3
        go_wp2_with fail
        go_loopw [16, 17, 47] (fun ev dv iv wr => ∃ (k : Nat) (edge : Int) (ended : Bool) (acc : List Nd), ev = .int .i64 edge ∧ dv = .bool ended ∧ iv = .int .i64 k ∧ k ≤ sp.length ∧ lo ≤ edge ∧ edge ≤ hi ∧ rowGo axis kerf hi (sp.drop k) (ps.drop k) edge ended acc = q ∧
            RowSt wr M (K + 1) acc ∧ wr.heap[K]? = some (.cells #[.int .i64 lo, .int .i64 hi] 23 (0, 0)) ∧ Below w.heap.size w wr ∧ K + 1 ≤ wr.heap.size ∧ acc.length ≤ k * 203) (fun _ _ i _ => sp.length - (intOf i).toNat)
        case atStart => exact ⟨0, lo, false, [], rfl, rfl, rfl, by omega, by omega, by omega, HQ3.out, HST3.out, HK3.out, HB3.out, by simp only [World.size_alloc]; omega, by simp⟩
        case round =>
          obtain ⟨k, edge, ended, acc, rfl, rfl, rfl, hkl, he0, he1, hqk, hst, hkb, hbw, hKs, hal⟩ := hrel
          have HQK := Lib.hid hqk
          have HST := Lib.hid hst
          have HKB := Lib.hid hkb
          have HBW := Lib.hid hbw
          obtain ⟨kc0, kc1⟩ := cells2 hkb
          have hKl : K < wr.heap.size := by omega
          clear hqk hst hkb hbw HQ3
          by_cases hlt : k < sp.length
          · have hs : sp[k]? = some sp[k] := List.getElem?_eq_getElem hlt
            obtain ⟨s, hse⟩ : ∃ s, sp[k] = s := ⟨_, rfl⟩
            rw [hse] at hs
            obtain ⟨a, b⟩ := s
            obtain ⟨bs, os, hAs, hbs, d0, d1⟩ := RdSp.at_ (HSP.out.below HBW.out) hs
            subst hAs
            have HDR := Lib.hid (show sp.drop k = (a, b) :: sp.drop (k + 1) by rw [List.drop_eq_getElem_cons hlt, hse])
            have hkp : k < ps.length := by have := HLL.out; omega
            have hx : ps[k]? = some ps[k] := List.getElem?_eq_getElem hkp
            obtain ⟨x, hxe⟩ : ∃ x, ps[k] = x := ⟨_, rfl⟩
            rw [hxe] at hx
            have hxl : x.length ≤ 200 := HPL.out x (List.mem_of_getElem? hx)
            have HDP := Lib.hid (show ps.drop k = x :: ps.drop (k + 1) by rw [List.drop_eq_getElem_cons hkp, hxe])
            have HX := Lib.hid hx
            have HR := Lib.hid (show (if b ≤ a then ([], 19) else if ended = true ∨ (a ≠ edge ∧ a < edge + kerf + 1) then ([], 11) else if hi < b then ([], 20)
                else rowGo axis kerf hi (sp.drop (k + 1)) (ps.drop (k + 1)) (min (b + kerf) hi) (decide (b = hi)) (acc ++ (gapN axis kerf a edge ++ (cutN axis b hi ++ x)))) = q by
              have h := HQK.out
              rw [HDR.out, HDP.out, rowGo] at h
              exact h)
            clear hs hse hx hxe HQK
            by_cases z1 : b ≤ a
            · have hz : q = ([], 19) := by rw [← HR.out, if_pos z1]
              subst hz
              clear HR
              go_wp2_with fail
              all_goals
                refine bodyPost_ret (v := .tuple #[.slice none 0 0, .int .i64 19]) (by simp [results, Tryd.results24, go_sem]) rfl ⟨_, rfl, RdNd.nil _ _, HBW.out.alloc (by omega) _⟩
            cases ended with
            | true =>
              have hz : q = ([], 11) := by rw [← HR.out, if_neg z1, if_pos (.inl rfl)]
              subst hz
              clear HR
              go_wp2_with fail
              all_goals
                refine bodyPost_ret (v := .tuple #[.slice none 0 0, .int .i64 11]) (by simp [results, Tryd.results24, go_sem]) rfl ⟨_, rfl, RdNd.nil _ _, HBW.out.alloc (by omega) _⟩
            | false =>
              by_cases z2 : a ≠ edge ∧ a < edge + kerf + 1
              · have hz : q = ([], 11) := by rw [← HR.out, if_neg z1, if_pos (.inr z2)]
                subst hz
                have zb : (a != edge) = true := by rw [bne_iff_ne]; exact z2.1
                have z2b := z2.2
                clear HR z2
                go_wp2_with fail
                all_goals
                  refine bodyPost_ret (v := .tuple #[.slice none 0 0, .int .i64 11]) (by simp [results, Tryd.results24, go_sem]) rfl ⟨_, rfl, RdNd.nil _ _, HBW.out.alloc (by omega) _⟩
              · by_cases z3 : hi < b
                · have hz : q = ([], 20) := by
                    rw [← HR.out, if_neg z1, if_neg (by rintro (h | h); cases h; exact z2 h), if_pos z3]
                  subst hz
                  clear HR
                  by_cases z5 : a = edge
                  · have zb : (a != edge) = false := by rw [bne_eq_false_iff_eq]; exact z5
                    clear z2 z5
                    go_wp2_with fail
                    all_goals
                      refine bodyPost_ret (v := .tuple #[.slice none 0 0, .int .i64 20]) (by simp [results, Tryd.results24, go_sem]) rfl ⟨_, rfl, RdNd.nil _ _, HBW.out.alloc (by omega) _⟩
                  · have zb : (a != edge) = true := by rw [bne_iff_ne]; exact z5
                    have z6 : edge + kerf + 1 ≤ a := by omega
                    clear z2 z5
                    go_wp2_with fail
                    all_goals
                      refine bodyPost_ret (v := .tuple #[.slice none 0 0, .int .i64 20]) (by simp [results, Tryd.results24, go_sem]) rfl ⟨_, rfl, RdNd.nil _ _, HBW.out.alloc (by omega) _⟩
                · have HR2 := Lib.hid (show rowGo axis kerf hi (sp.drop (k + 1)) (ps.drop (k + 1)) (min (b + kerf) hi) (decide (b = hi)) (acc ++ (gapN axis kerf a edge ++ (cutN axis b hi ++ x))) = q by
                    have h := HR.out
                    rw [if_neg z1, if_neg (by rintro (h | h); cases h; exact z2 h), if_neg z3] at h
                    exact h)
                  clear HR
                  have hsz0 : w.heap.size < wr.heap.size := by omega
                  obtain ⟨W4, hW4⟩ : ∃ W4, wr.alloc (.cells #[.int .i64 a, .int .i64 b] 23) = W4 := ⟨_, rfl⟩
                  obtain ⟨S, hS⟩ : ∃ S, wr.heap.size = S := ⟨_, rfl⟩
                  have hs4 : W4.heap.size = S + 1 := by rw [← hW4, World.size_alloc, hS]
                  have hb4 : Below wr.heap.size wr W4 := by rw [← hW4]; exact (Below.refl _ _).alloc (Nat.le_refl _) _
                  have HS4 := Lib.hid (show RowSt W4 M (K + 1) acc from HST.out.kept hb4)
                  have HK4 := Lib.hid ((hb4.block K (by omega)).trans HKB.out)
                  have HX4 := Lib.hid (show W4.heap[S]? = some (.cells #[.int .i64 a, .int .i64 b] 23 (0, 0)) by rw [← hW4, ← hS]; exact heap_alloc_last wr _)
                  have HBW4 := Lib.hid (HBW.out.trans (hb4.mono (by omega)))
                  have hacb : acc.length ≤ 21000 := by omega
                  clear hb4 kc0 kc1
                  obtain ⟨kc0, kc1⟩ := cells2 HK4.out
                  obtain ⟨sc0, sc1⟩ := cells2 HX4.out
                  by_cases z5 : a = edge
                  · have zb : (a != edge) = false := by rw [bne_eq_false_iff_eq]; exact z5
                    have HG := Lib.hid (show gapN axis kerf a edge = [] by rw [gapN, if_neg (by simpa using z5)])
                    subst z5
                    clear z2
                    by_cases z8 : b = hi
                    · have HC := Lib.hid (show cutN axis b hi = [] by rw [cutN, if_neg (by simpa using z8)])
                      subst z8
                      have hpx := HPS.out.below HBW4.out
                      obtain ⟨bp, op, A3, c3, hA3, hbp, p0, hrdx⟩ := RdPs.at_ hpx HX.out
                      subst hA3
                      have HRX := Lib.hid hrdx
                      clear hpx hrdx
                      go_wp2_with fail
                      refine (add_any (.slice A3 x.length c3) x acc M (K + 1) W4 HS4.out (by omega) (by omega) w.heap.size (fun v => HRX.out.below ((Below.refl _ _).setCell (p := ⟨M + 1, 0, none⟩) (by simp only; omega) _)) (by omega) (by omega)).mono ?_
                      rintro e w7 ⟨⟨v7, he⟩, hst7, hbM7, hsz7, hkeep7⟩
                      subst he
                      have HS7 := Lib.hid hst7
                      have HK7 := Lib.hid (hkeep7 K _ _ _ (by omega) HK4.out (by decide))
                      have HBW7 := Lib.hid (HBW4.out.trans (hbM7.mono (by omega)))
                      clear hst7 hbM7 hkeep7 kc0 kc1 sc0 sc1
                      go_wp2_with fail
                      refine ⟨⟨k + 1, _, true, _, rfl, rfl, by simp, by omega, by omega, by omega, ?_, HS7.out, HK7.out, HBW7.out, by omega, ?_⟩, by simp [intOf]; omega⟩
                      · have h := HR2.out
                        simp only [HG.out, HC.out, decide_true, List.nil_append] at h
                        try simp only [List.append_assoc, List.nil_append]
                        rw [← h]
                        exact rowGo_ended _ _ _ _ _ _ _ _
                      · simp only [List.length_append]; omega
                    · have zlt : b < hi := by omega
                      have HC := Lib.hid (show cutN axis b hi = [⟨axis, b⟩] by rw [cutN, if_pos z8])
                      have HZ8 := Lib.hid z8
                      clear z8
                      go_wp2_with fail
                      refine (add_any (.slice (some ⟨S + 1, 0, none⟩) 1 1) [⟨axis, b⟩] acc M (K + 1) _ (HS4.out.kept ((Below.refl _ _).alloc (Nat.le_refl _) _)) (by omega) (by simp only [World.size_alloc]; omega) (S + 1 + 1) (fun v => hs4 ▸ lit_rd (W := W4) (M := M) [⟨axis, b⟩] (by simp) (by omega) v) (by omega) (by simp)).mono ?_
                      rintro e w6 ⟨⟨v6, he⟩, hst6, hbM6, hsz6, hkeep6⟩
                      subst he
                      rw [World.size_alloc] at hsz6
                      have HS6 := Lib.hid hst6
                      have HK6 := Lib.hid (hkeep6 K _ _ _ (by omega) (hpA HK4.out _) (by decide))
                      have HX6 := Lib.hid (hkeep6 S _ _ _ (by omega) (hpA HX4.out _) (by decide))
                      have HBW6 := Lib.hid (HBW4.out.trans (((Below.refl w.heap.size W4).alloc (by omega) _).trans (hbM6.mono (by omega))))
                      clear hst6 hbM6 hkeep6 kc0 kc1 sc0 sc1
                      obtain ⟨kc0, kc1⟩ := cells2 HK6.out
                      obtain ⟨sc0, sc1⟩ := cells2 HX6.out
                      have hpx := HPS.out.below HBW6.out
                      obtain ⟨bp, op, A3, c3, hA3, hbp, p0, hrdx⟩ := RdPs.at_ hpx HX.out
                      subst hA3
                      have HRX := Lib.hid hrdx
                      clear hpx hrdx
                      obtain ⟨en, hen⟩ : ∃ en, min (b + kerf) hi = en := ⟨_, rfl⟩
                      have hec : (b + kerf ≤ hi ∧ b + kerf = en) ∨ (hi < b + kerf ∧ hi = en) := by omega
                      have HR3 := Lib.hid (show rowGo axis kerf hi (sp.drop (k + 1)) (ps.drop (k + 1)) en false (acc ++ (gapN axis kerf a a ++ ([⟨axis, b⟩] ++ x))) = q by
                        have h := HR2.out
                        rw [hen, decide_eq_false HZ8.out, HC.out] at h
                        exact h)
                      clear hen HR2
                      rcases hec with ⟨hec, rfl⟩ | ⟨hec, rfl⟩
                      all_goals
                        go_wp2_with fail
                        refine (add_any (.slice A3 x.length c3) x (acc ++ [⟨axis, b⟩]) M (K + 1) w6 HS6.out (by omega) (by omega) w.heap.size (fun v => HRX.out.below ((Below.refl _ _).setCell (p := ⟨M + 1, 0, none⟩) (by simp only; omega) _)) (by rw [List.length_append]; simp only [List.length_cons, List.length_nil]; omega) (by omega)).mono ?_
                        rintro e w7 ⟨⟨v7, he⟩, hst7, hbM7, hsz7, hkeep7⟩
                        subst he
                        have HS7 := Lib.hid hst7
                        have HK7 := Lib.hid (hkeep7 K _ _ _ (by omega) HK6.out (by decide))
                        have HBW7 := Lib.hid (HBW6.out.trans (hbM7.mono (by omega)))
                        clear hst7 hbM7 hkeep7 kc0 kc1 sc0 sc1
                        go_wp2_with fail
                        refine ⟨⟨k + 1, _, false, _, rfl, rfl, by simp, by omega, by omega, by omega, ?_, HS7.out, HK7.out, HBW7.out, by omega, ?_⟩, by simp [intOf]; omega⟩
                        · have h := HR3.out
                          rw [HG.out] at h
                          rw [← h]
                          simp only [List.append_assoc, List.nil_append, List.cons_append]
                        · simp only [List.length_append, List.length_cons, List.length_nil]; omega
                  · have zb : (a != edge) = true := by rw [bne_iff_ne]; exact z5
                    have z6 : edge + kerf + 1 ≤ a := by omega
                    have z7 : edge < a := by omega
                    have HG := Lib.hid (show gapN axis kerf a edge = [⟨axis, a - kerf⟩, ⟨0, 0⟩] by rw [gapN, if_pos z5])
                    clear z2 z5
                    go_wp2_with fail
                    refine (add_any (.slice (some ⟨S + 1, 0, none⟩) 2 2) [⟨axis, a - kerf⟩, ⟨0, 0⟩] acc M (K + 1) _ (HS4.out.kept ((Below.refl _ _).alloc (Nat.le_refl _) _)) (by omega) (by simp only [World.size_alloc]; omega) (S + 1 + 1) (fun v => hs4 ▸ lit_rd (W := W4) (M := M) [⟨axis, a - kerf⟩, ⟨0, 0⟩] (by simp) (by omega) v) (by omega) (by simp)).mono ?_
                    rintro e w5 ⟨⟨v5, he⟩, hst5, hbM5, hsz5, hkeep5⟩
                    subst he
                    rw [World.size_alloc] at hsz5
                    have HS5 := Lib.hid hst5
                    have HK5 := Lib.hid (hkeep5 K _ _ _ (by omega) (hpA HK4.out _) (by decide))
                    have HX5 := Lib.hid (hkeep5 S _ _ _ (by omega) (hpA HX4.out _) (by decide))
                    have HBW5 := Lib.hid (HBW4.out.trans (((Below.refl w.heap.size W4).alloc (by omega) _).trans (hbM5.mono (by omega))))
                    clear hst5 hbM5 hkeep5 kc0 kc1 sc0 sc1 hW4 HS4 HK4 HX4 HBW4
                    obtain ⟨kc0, kc1⟩ := cells2 HK5.out
                    obtain ⟨sc0, sc1⟩ := cells2 HX5.out
                    have hacb5 : (acc ++ [(⟨axis, a - kerf⟩ : Nd), ⟨0, 0⟩]).length ≤ 21010 := by simp only [List.length_append, List.length_cons, List.length_nil]; omega
                    by_cases z8 : b = hi
                    · have HC := Lib.hid (show cutN axis b hi = [] by rw [cutN, if_neg (by simpa using z8)])
                      subst z8
                      have hpx := HPS.out.below HBW5.out
                      obtain ⟨bp, op, A3, c3, hA3, hbp, p0, hrdx⟩ := RdPs.at_ hpx HX.out
                      subst hA3
                      have HRX := Lib.hid hrdx
                      clear hpx hrdx
                      go_wp2_with fail
                      refine (add_any (.slice A3 x.length c3) x (acc ++ [⟨axis, a - kerf⟩, ⟨0, 0⟩]) M (K + 1) w5 HS5.out (by omega) (by omega) w.heap.size (fun v => HRX.out.below ((Below.refl _ _).setCell (p := ⟨M + 1, 0, none⟩) (by simp only; omega) _)) (by omega) (by omega)).mono ?_
                      rintro e w7 ⟨⟨v7, he⟩, hst7, hbM7, hsz7, hkeep7⟩
                      subst he
                      have HS7 := Lib.hid hst7
                      have HK7 := Lib.hid (hkeep7 K _ _ _ (by omega) HK5.out (by decide))
                      have HBW7 := Lib.hid (HBW5.out.trans (hbM7.mono (by omega)))
                      clear hst7 hbM7 hkeep7 kc0 kc1 sc0 sc1
                      go_wp2_with fail
                      refine ⟨⟨k + 1, _, true, _, rfl, rfl, by simp, by omega, by omega, by omega, ?_, HS7.out, HK7.out, HBW7.out, by omega, ?_⟩, by simp [intOf]; omega⟩
                      · have h := HR2.out
                        simp only [HG.out, HC.out, decide_true, List.nil_append] at h
                        try simp only [List.append_assoc]
                        rw [← h]
                        exact rowGo_ended _ _ _ _ _ _ _ _
                      · simp only [List.length_append, List.length_cons, List.length_nil]; omega
                    · have zlt : b < hi := by omega
                      have HC := Lib.hid (show cutN axis b hi = [⟨axis, b⟩] by rw [cutN, if_pos z8])
                      have HZ8 := Lib.hid z8
                      clear z8
                      go_wp2_with fail
                      refine (add_any (.slice (some ⟨w5.heap.size, 0, none⟩) 1 1) [⟨axis, b⟩] (acc ++ [⟨axis, a - kerf⟩, ⟨0, 0⟩]) M (K + 1) _ (HS5.out.kept ((Below.refl _ _).alloc (Nat.le_refl _) _)) (by omega) (by simp only [World.size_alloc]; omega) (w5.heap.size + 1) (fun v => lit_rd (W := w5) (M := M) [⟨axis, b⟩] (by simp) (by omega) v) (by omega) (by simp)).mono ?_
                      rintro e w6 ⟨⟨v6, he⟩, hst6, hbM6, hsz6, hkeep6⟩
                      subst he
                      rw [World.size_alloc] at hsz6
                      have HS6 := Lib.hid hst6
                      have HK6 := Lib.hid (hkeep6 K _ _ _ (by omega) (hpA HK5.out _) (by decide))
                      have HX6 := Lib.hid (hkeep6 S _ _ _ (by omega) (hpA HX5.out _) (by decide))
                      have HBW6 := Lib.hid (HBW5.out.trans (((Below.refl w.heap.size w5).alloc (by omega) _).trans (hbM6.mono (by omega))))
                      clear hst6 hbM6 hkeep6 kc0 kc1 sc0 sc1
                      obtain ⟨kc0, kc1⟩ := cells2 HK6.out
                      obtain ⟨sc0, sc1⟩ := cells2 HX6.out
                      have hpx := HPS.out.below HBW6.out
                      obtain ⟨bp, op, A3, c3, hA3, hbp, p0, hrdx⟩ := RdPs.at_ hpx HX.out
                      subst hA3
                      have HRX := Lib.hid hrdx
                      clear hpx hrdx
                      obtain ⟨en, hen⟩ : ∃ en, min (b + kerf) hi = en := ⟨_, rfl⟩
                      have hec : (b + kerf ≤ hi ∧ b + kerf = en) ∨ (hi < b + kerf ∧ hi = en) := by omega
                      have HR3 := Lib.hid (show rowGo axis kerf hi (sp.drop (k + 1)) (ps.drop (k + 1)) en false (acc ++ (gapN axis kerf a edge ++ ([⟨axis, b⟩] ++ x))) = q by
                        have h := HR2.out
                        rw [hen, decide_eq_false HZ8.out, HC.out] at h
                        exact h)
                      clear hen HR2
                      rcases hec with ⟨hec, rfl⟩ | ⟨hec, rfl⟩
                      all_goals
                        go_wp2_with fail
                        refine (add_any (.slice A3 x.length c3) x ((acc ++ [⟨axis, a - kerf⟩, ⟨0, 0⟩]) ++ [⟨axis, b⟩]) M (K + 1) w6 HS6.out (by omega) (by omega) w.heap.size (fun v => HRX.out.below ((Below.refl _ _).setCell (p := ⟨M + 1, 0, none⟩) (by simp only; omega) _)) (by rw [List.length_append]; simp only [List.length_cons, List.length_nil]; omega) (by omega)).mono ?_
                        rintro e w7 ⟨⟨v7, he⟩, hst7, hbM7, hsz7, hkeep7⟩
                        subst he
                        have HS7 := Lib.hid hst7
                        have HK7 := Lib.hid (hkeep7 K _ _ _ (by omega) HK6.out (by decide))
                        have HBW7 := Lib.hid (HBW6.out.trans (hbM7.mono (by omega)))
                        clear hst7 hbM7 hkeep7 kc0 kc1 sc0 sc1
                        go_wp2_with fail
                        refine ⟨⟨k + 1, _, false, _, rfl, rfl, by simp, by omega, by omega, by omega, ?_, HS7.out, HK7.out, HBW7.out, by omega, ?_⟩, by simp [intOf]; omega⟩
                        · have h := HR3.out
                          rw [HG.out] at h
                          rw [← h]
                          simp only [List.append_assoc, List.nil_append, List.cons_append]
                        · simp only [List.length_append, List.length_cons, List.length_nil]; omega
          · have hkn : k = sp.length := by omega
            have HR := Lib.hid (show rowEnd ended acc = q by
              have h := HQK.out
              rw [hkn, List.drop_eq_nil_of_le (Nat.le_refl _), rowGo] at h
              exact h)
            clear HQK
            have fin : ∀ (W : World) (ac : List Nd), RowSt W M (K + 1) ac → Below w.heap.size w W → (if 127 < ac.length then ([], 4) else (ac, 0)) = q → ∃ v, W.cell? ⟨M + 1, 0, none⟩ = some (.int .i64 ac.length) ∧ W.cell? ⟨M, 0, none⟩ = some v ∧ ((ac.length ≤ 127 → q = (ac, 0) ∧ RowPost w q (.returned (.tuple #[v, .int .i64 0])) W) ∧ (127 < ac.length → q = ([], 4) ∧ RowPost w q (.returned (.tuple #[.slice none 0 0, .int .i64 4])) W)) := by
              rintro W ac ⟨q1, v, cur, q2, q3, q4, q5⟩ hb hq
              refine ⟨v, cell_of_box q1 rfl, cell_of_box q2 rfl, fun h => ?_, fun h => ?_⟩
              · rw [if_neg (by omega)] at hq
                refine ⟨hq.symm, v, by rw [← hq], ?_, hb⟩
                have h5 := Rd.of_own q3
                rw [q4 h] at h5
                rw [← hq]
                exact h5
              · rw [if_pos h] at hq
                exact ⟨hq.symm, .slice none 0 0, by rw [← hq], by rw [← hq]; exact RdNd.nil _ _, hb⟩
            have FIN := Lib.hid fin
            clear fin
            cases ended with
            | true =>
              obtain ⟨v, f1, f2, f3, f4⟩ := FIN.out wr acc HST.out HBW.out (by have h := HR.out; rw [rowEnd] at h; simpa using h)
              have F3 := Lib.hid f3
              have F4 := Lib.hid f4
              clear f3 f4
              by_cases hc127 : 127 < acc.length
              · go_wp2_with fail
                exact bodyPost_ret (v := .tuple #[.slice none 0 0, .int .i64 4]) (by simp [results, Tryd.results24, go_sem]) rfl (F4.out (by omega)).2
              · go_wp2_with fail
                exact bodyPost_ret (v := .tuple #[v, .int .i64 0]) (by simp [results, Tryd.results24, go_sem]) rfl (F3.out (by omega)).2
            | false =>
              obtain ⟨S, hS⟩ : ∃ S, wr.heap.size = S := ⟨_, rfl⟩
              go_wp2_with fail
              refine (add_any (.slice (some ⟨S, 0, none⟩) 1 1) [⟨0, 0⟩] acc M (K + 1) _ (HST.out.kept ((Below.refl _ _).alloc (Nat.le_refl _) _)) (by omega) (by simp only [World.size_alloc]; omega) (S + 1) (fun v => hS ▸ lit_rd (W := wr) (M := M) [⟨0, 0⟩] (by simp) (by omega) v) (by omega) (by simp)).mono ?_
              rintro e w6 ⟨⟨v6, he⟩, hst6, hbM6, hsz6, hkeep6⟩
              subst he
              have hbw6 : Below w.heap.size w w6 := HBW.out.trans (((Below.refl w.heap.size wr).alloc (by omega) _).trans (hbM6.mono (by omega)))
              obtain ⟨v, f1, f2, f3, f4⟩ := FIN.out w6 (acc ++ [(⟨0, 0⟩ : Nd)]) hst6 hbw6 (by have h := HR.out; rw [rowEnd] at h; simpa using h)
              have F3 := Lib.hid f3
              have F4 := Lib.hid f4
              obtain ⟨m, hm⟩ : ∃ m, (acc ++ [(⟨0, 0⟩ : Nd)]).length = m := ⟨_, rfl⟩
              rw [hm] at f1 F3 F4
              clear f3 f4 hst6 hbM6 hkeep6 hm
              by_cases hc127 : 127 < m
              · go_wp2_with fail
                exact bodyPost_ret (v := .tuple #[.slice none 0 0, .int .i64 4]) (by simp [results, Tryd.results24, go_sem]) rfl (F4.out (by omega)).2
              · go_wp2_with fail
                exact bodyPost_ret (v := .tuple #[v, .int .i64 0]) (by simp [results, Tryd.results24, go_sem]) rfl (F3.out (by omega)).2

end Go.Proofs.YtbmcfodhjibooaaDoor
