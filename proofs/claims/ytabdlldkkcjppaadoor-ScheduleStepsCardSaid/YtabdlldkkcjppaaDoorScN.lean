/-
  The contracts of sawmillref37's is, take, number, part: readers by value.
  The contract of sawmillref37's part.
  The contract of sawmillref37.stage.
  The contract of sawmillref37.schedule.
-/
import Derived.Test.YtabdlldkkcjppaaDoorScJ
import Derived.Deep.Cut
import Derived.Deep.AppendLies
namespace Go.Proofs.YtabdlldkkcjppaaDoor
open Go.RowKit Saw

theorem bel_alloc {w W : World} {ob : Obj} (h : Below w.heap.size w W) : Below w.heap.size w (W.alloc ob) := h.alloc h.size ob
theorem bel_call {w W W' : World} (h : Below w.heap.size w W) (h2 : Below W.heap.size W W') : Below w.heap.size w W' := h.trans (h2.mono h.size)
theorem bel_set {w W : World} {g j : Nat} {v : Value} (h : Below w.heap.size w W) (hg : w.heap.size ≤ g) : Below w.heap.size w (W.setCell ⟨g, j, none⟩ v) := h.setCell hg _
theorem set3_heap {W : World} {g : Nat} {a b c x y z : Value} {t : TypeId} (h : W.heap[g]? = some (.cells #[a, b, c] t (0, 0))) : (((W.setCell ⟨g, 0, none⟩ x).setCell ⟨g, 1, none⟩ y).setCell ⟨g, 2, none⟩ z).heap[g]? = some (.cells #[x, y, z] t (0, 0)) := by
  have h1 : (W.setCell ⟨g, 0, none⟩ x).heap[g]? = some (.cells #[x, b, c] t (0, 0)) := by rw [setCell_eq_setRow W g 0 _ _ _ _ h, setRow_heap _ _ _ _ _ _ h]; rfl
  have h2 : ((W.setCell ⟨g, 0, none⟩ x).setCell ⟨g, 1, none⟩ y).heap[g]? = some (.cells #[x, y, c] t (0, 0)) := by rw [setCell_eq_setRow _ g 1 _ _ _ _ h1, setRow_heap _ _ _ _ _ _ h1]; rfl
  rw [setCell_eq_setRow _ g 2 _ _ _ _ h2, setRow_heap _ _ _ _ _ _ h2]; rfl
theorem set3_heap' {W : World} {g : Nat} {cs : Array Value} {t : TypeId} (h : W.heap[g]? = some (.cells cs t (0, 0))) (x : Value) (j : Nat) : (W.setCell ⟨g, j, none⟩ x).heap[g]? = some (.cells (cs.setIfInBounds j x) t (0, 0)) := by rw [setCell_eq_setRow W g j _ _ _ _ h, setRow_heap _ _ _ _ _ _ h]

/-- The value of the reference's reader. -/
def r7V (lv : Value) (s : Nat × Bool) : Value := .agg #[lv, .int .i64 s.1, .bool s.2]
def IsR7 (w : World) (g : Nat) (lv : Value) (s : Nat × Bool) : Prop := w.heap[g]? = some (.cells #[lv, .int .i64 s.1, .bool s.2] 80 (0, 0))
section
variable {w w' : World} {g : Nat} {lv : Value} {s : Nat × Bool} {B : Nat}
theorem IsR7.cells (h : IsR7 w g lv s) : w.cell? ⟨g, 0, none⟩ = some lv ∧ w.cell? ⟨g, 1, none⟩ = some (.int .i64 s.1) ∧ w.cell? ⟨g, 2, none⟩ = some (.bool s.2) ∧ w.frozen? ⟨g, 0, none⟩ = false ∧ w.frozen? ⟨g, 1, none⟩ = false ∧ w.frozen? ⟨g, 2, none⟩ = false ∧ g < w.heap.size := by
  refine ⟨cell_of_box h rfl, cell_of_box h rfl, cell_of_box h rfl, ?_, ?_, ?_, (Array.getElem?_eq_some_iff.1 h).1⟩ <;> · unfold IsR7 at h; simp [World.frozen?, h]
theorem IsR7.alloc (h : IsR7 w g lv s) (o : Obj) : IsR7 (w.alloc o) g lv s := (Below.heap_alloc w o g (Array.getElem?_eq_some_iff.1 h).1).trans h
theorem IsR7.below (h : IsR7 w g lv s) (hb : Below B w w') (hB : g < B) : IsR7 w' g lv s := (hb.block g hB).trans h
theorem IsR7.put {lu : Value} {u : Nat × Bool} (h : IsR7 w g lv s) : IsR7 (((w.setCell ⟨g, 0, none⟩ lu).setCell ⟨g, 1, none⟩ (.int .i64 u.1)).setCell ⟨g, 2, none⟩ (.bool u.2)) g lu u := set3_heap h
theorem IsR7.setO (h : IsR7 w g lv s) {g' i : Nat} (hne : g ≠ g') (v : Value) : IsR7 (w.setCell ⟨g', i, none⟩ v) g lv s := (Below.heap_setCell _ _ _ _ hne).trans h
theorem IsR7.at (h : IsR7 w g lv s) (j : Nat) : IsR7 (w.setCell ⟨g, 1, none⟩ (.int .i64 j)) g lv (j, s.2) := set3_heap' h _ 1
theorem IsR7.bad (h : IsR7 w g lv s) (f : Bool) : IsR7 (w.setCell ⟨g, 2, none⟩ (.bool f)) g lv (s.1, f) := set3_heap' h _ 2
end
/-- What is read of the list of lexemes. -/
theorem lx_reads {w : World} {B : Nat} {A0 : Option Addr} {cc k : Nat} {xs : List Lx} {x : Lx} (hl : Rd w B 4 (.slice A0 xs.length cc) xs.length (lxsCells xs)) (hkx : k < xs.length) (hxe : lxAt xs k = x) :
    ∃ b off, A0 = some ⟨b, off, none⟩ ∧ b < B ∧ xs.length ≤ 9223372036854775807 ∧ w.cell? ⟨b, off + k * 4, none⟩ = some (.int .i64 x.kind) ∧ w.cell? ⟨b, off + k * 4 + 1, none⟩ = some (.string (str x.text)) ∧ w.cell? ⟨b, off + k * 4 + 2, none⟩ = some (.int .i64 x.num) ∧ w.cell? ⟨b, off + k * 4 + 3, none⟩ = some (.int .i64 x.off) := by
  have hx := lxAt_some hkx
  rw [hxe] at hx
  obtain ⟨_, hml, A, cp, he, hcp, hcs⟩ := id hl
  injection he with e1 e2 e3
  subst e1 e3
  obtain ⟨b, off, rfl, hb, hcell⟩ := hcs (by omega)
  obtain ⟨k0, k1, k2, k3⟩ := lxs_at xs k x hx
  have d0 := hcell _ _ k0
  have d1 := hcell _ _ k1
  rw [← Nat.add_assoc] at d1
  have d2 := hcell _ _ k2
  rw [← Nat.add_assoc] at d2
  have d3 := hcell _ _ k3
  rw [← Nat.add_assoc] at d3
  unfold maxLen at hml
  exact ⟨b, off, rfl, hb, by omega, d0, d1, d2, d3⟩

set_option maxRecDepth 100000 in
set_option maxHeartbeats 400000 in
theorem ris_any (A0 : Option Addr) (cc : Nat) (xs : List Lx) (s : Nat × Bool) (kind : Int) (t : ByteArray) (w : World) (hl : Rd w w.heap.size 4 (.slice A0 xs.length cc) xs.length (lxsCells xs)) (hkx : s.1 < xs.length) (_hk : xs.length < 1000000) :
    Calls Tryd.prog 68 #[.agg #[.slice A0 xs.length cc, .int .i64 s.1, .bool s.2], .int .i64 kind, .string t] w (BoolB (lxIs (lxAt xs s.1) kind (bts t)) w) := by
  obtain ⟨k, f⟩ := s
  simp only at hkx ⊢
  obtain ⟨x, hxe⟩ : ∃ x, lxAt xs k = x := ⟨_, rfl⟩
  obtain ⟨b, off, rfl, hb, hml, d0, d1, _, _⟩ := lx_reads hl hkx hxe
  rw [hxe]
  have hb1 : b < w.heap.size + 1 := by omega
  have ht := str_eqC x.text t
  obtain ⟨m, hm⟩ : ∃ m, (x.text == bts t) = m := ⟨_, rfl⟩
  rw [hm] at ht
  obtain ⟨q, hq⟩ : ∃ q, lxIs x kind (bts t) = q := ⟨_, rfl⟩
  have HLX := Lib.hid (show q = (x.kind == kind && m) by rw [← hq, lxIs, hm])
  rw [hq]
  clear hm hq hl hxe
  go_enter Tryd.func68, Tryd.ntmps68
  cases hkk : (x.kind == kind) with
  | true =>
    rw [hkk] at HLX
    have hle : q = m := HLX.out
    subst hle
    go_wp2_with fail
    go_ret
    exact ⟨rfl, bel_alloc (Below.refl _ _)⟩
  | false =>
    rw [hkk] at HLX
    have hle : q = false := HLX.out
    subst hle
    go_wp2_with fail
    go_ret
    exact ⟨rfl, bel_alloc (Below.refl _ _)⟩

def R7Post (lv : Value) (s' : Nat × Bool) (w : World) (e : Ending) (w' : World) : Prop := e = .returned (.agg #[lv, .int .i64 s'.1, .bool s'.2]) ∧ Below w.heap.size w w'
def R7NPost (lv : Value) (s' : Nat × Bool) (n : Int) (w : World) (e : Ending) (w' : World) : Prop := e = .returned (.tuple #[.agg #[lv, .int .i64 s'.1, .bool s'.2], .int .i64 n]) ∧ Below w.heap.size w w'

theorem r7_info : (Tryd.prog.info? 80).map (·.size) = some 3 := by kernel_rfl
theorem r7_res1 {fn : Func} {p : Tmp} (h : fn.results = #[.cell p 80]) (tmps : Array Value) (W : World) (g : Nat) {lv : Value} {s : Nat × Bool} (hp : tmps.getD p undef = .pointer (some ⟨g, 0, none⟩)) (hg : IsR7 W g lv s) :
    (results fn tmps).run Tryd.prog W = .ok (.agg #[lv, .int .i64 s.1, .bool s.2]) W :=
  results_cell1 h tmps W g 0 [lv, .int .i64 s.1, .bool s.2] hp (rangeAt_block hg) Tryd.underlying80 rfl r7_info
theorem r7_res2 {fn : Func} {p q : Tmp} (h : fn.results = #[.cell p 80, .tmp q]) (tmps : Array Value) (W : World) (g : Nat) {lv : Value} {s : Nat × Bool} (hp : tmps.getD p undef = .pointer (some ⟨g, 0, none⟩)) (hg : IsR7 W g lv s) {v : Value} (hq : tmps.getD q undef = v) :
    (results fn tmps).run Tryd.prog W = .ok (.tuple #[.agg #[lv, .int .i64 s.1, .bool s.2], v]) W :=
  results_cell2 h tmps W g 0 [lv, .int .i64 s.1, .bool s.2] hp (rangeAt_block hg) Tryd.underlying80 rfl r7_info v hq
/-- The reader's box and the result's, behind a call. -/
theorem two_r7 {w w1 : World} {lv : Value} {k : Nat} {f : Bool} (hb : Below ((w.alloc (.cells #[lv, .int .i64 k, .bool f] 80)).alloc (.cells #[.slice none 0 0, .int .i64 0, .bool false] 80)).heap.size ((w.alloc (.cells #[lv, .int .i64 k, .bool f] 80)).alloc (.cells #[.slice none 0 0, .int .i64 0, .bool false] 80)) w1) :
    w.heap.size + 1 < w1.heap.size ∧ IsR7 w1 w.heap.size lv (k, f) ∧ IsR7 w1 (w.heap.size + 1) (.slice none 0 0) (0, false) ∧ Below w.heap.size w w1 := by
  have hz := hb.size
  rw [World.size_alloc, World.size_alloc] at hz
  refine ⟨by omega, (hb.block _ (by rw [World.size_alloc, World.size_alloc]; omega)).trans (hpA (heap_alloc_last w _) _), (hb.block _ (by rw [World.size_alloc, World.size_alloc]; omega)).trans ?_, bel_call (bel_alloc (bel_alloc (Below.refl _ _))) hb⟩
  have h9 := heap_alloc_last (w.alloc (.cells #[lv, .int .i64 k, .bool f] 80)) (.cells #[.slice none 0 0, .int .i64 0, .bool false] 80)
  rw [World.size_alloc] at h9
  exact h9

set_option maxRecDepth 100000 in
set_option maxHeartbeats 400000 in
theorem rtake_any (A0 : Option Addr) (cc : Nat) (xs : List Lx) (s : Nat × Bool) (kind : Int) (t : ByteArray) (pt : List UInt8) (hpt : bts t = pt) (hp0 : pt ≠ []) (w : World) (hl : Rd w w.heap.size 4 (.slice A0 xs.length cc) xs.length (lxsCells xs)) (hkx : s.1 < xs.length) (hk : xs.length < 1000000) :
    Calls Tryd.prog 66 #[.agg #[.slice A0 xs.length cc, .int .i64 s.1, .bool s.2], .int .i64 kind, .string t] w (R7Post (.slice A0 xs.length cc) (nextS xs s (kind, pt)) w) := by
  subst hpt
  have HIS := Lib.hid (fun (W : World) (hb : Below w.heap.size w W) => ris_any A0 cc xs s kind t W (hl.next hb) hkx hk)
  obtain ⟨k, f⟩ := s
  simp only at hkx HIS
  cases f with
  | true =>
    rw [nextS_failed rfl]
    clear HIS hl
    go_enter Tryd.func66, Tryd.ntmps66
    go_wp2_with fail
    refine bodyPost_ret (v := .agg #[.slice A0 xs.length cc, .int .i64 k, .bool true]) (by simp [results, Tryd.results66, go_sem]) rfl ⟨rfl, ?_⟩
    exact bel_alloc (bel_alloc (Below.refl _ _))
  | false =>
    obtain ⟨m, hm⟩ : ∃ m, lxIs (lxAt xs k) kind (bts t) = m := ⟨_, rfl⟩
    rw [hm] at HIS
    cases m with
    | true =>
      rw [nextW_t hp0 hm]
      clear hm hl
      go_enter Tryd.func66, Tryd.ntmps66
      go_wp2_with fail
      refine (HIS.out _ (bel_alloc (bel_alloc (Below.refl _ _)))).mono ?_
      rintro e w1 ⟨he, hb⟩
      subst he
      obtain ⟨z1, g0, g1, hbb⟩ := two_r7 hb
      obtain ⟨c0, c1, c2, e0, e1, e2, _⟩ := g0.cells
      obtain ⟨p0, p1, p2, q0, q1, q2, _⟩ := g1.cells
      have HB := Lib.hid hbb
      have G1 := Lib.hid g1
      clear hb hbb g0 g1
      go_wp2_with fail
      refine bodyPost_ret (r7_res1 Tryd.results66 _ _ (w.heap.size + 1) rfl (IsR7.put (u := (k + 1, false)) (G1.out.setO (by omega) _))) rfl ⟨rfl, ?_⟩
      refine bel_set (bel_set (bel_set (bel_set HB.out ?_) ?_) ?_) ?_ <;> omega
    | false =>
      rw [nextW_f hp0 hm]
      clear hm hl
      go_enter Tryd.func66, Tryd.ntmps66
      go_wp2_with fail
      refine (HIS.out _ (bel_alloc (bel_alloc (Below.refl _ _)))).mono ?_
      rintro e w1 ⟨he, hb⟩
      subst he
      obtain ⟨z1, g0, g1, hbb⟩ := two_r7 hb
      obtain ⟨c0, c1, c2, e0, e1, e2, _⟩ := g0.cells
      obtain ⟨p0, p1, p2, q0, q1, q2, _⟩ := g1.cells
      have HB := Lib.hid hbb
      have G1 := Lib.hid g1
      clear hb hbb g0 g1
      go_wp2_with fail
      refine bodyPost_ret (r7_res1 Tryd.results66 _ _ (w.heap.size + 1) rfl (IsR7.put (u := (k, true)) (G1.out.setO (by omega) _))) rfl ⟨rfl, ?_⟩
      refine bel_set (bel_set (bel_set (bel_set HB.out ?_) ?_) ?_) ?_ <;> omega

theorem nextN2_t {xs : List Lx} {j : Nat} (h : (lxAt xs j).kind = 2) : nextS xs (j, false) (2, []) = (j + 1, false) ∧ lexS xs (j, false) (2, []) = lxAt xs j := by
  have ho : okS xs (j, false) (2, []) = true := by simp [okS, lxFits, h]
  rw [nextS, lexS, if_pos ho, if_pos ho]
  exact ⟨rfl, rfl⟩
theorem nextN2_f {xs : List Lx} {j : Nat} (h : (lxAt xs j).kind ≠ 2) : nextS xs (j, false) (2, []) = (j, true) ∧ (lexS xs (j, false) (2, [])).num = 0 := by
  have ho : ¬ okS xs (j, false) (2, []) = true := by simp [okS, lxFits, h]
  rw [nextS, lexS, if_neg ho, if_neg ho]
  exact ⟨rfl, rfl⟩
theorem lexS_bad (xs : List Lx) (j : Nat) (p : Int × List UInt8) : lexS xs (j, true) p = Lx.zero := by rw [lexS, if_neg]; simp [okS]

set_option maxRecDepth 100000 in
set_option maxHeartbeats 400000 in
theorem rnumber_any (A0 : Option Addr) (cc : Nat) (xs : List Lx) (s : Nat × Bool) (w : World) (hl : Rd w w.heap.size 4 (.slice A0 xs.length cc) xs.length (lxsCells xs)) (hkx : s.1 < xs.length) (hk : xs.length < 1000000) :
    Calls Tryd.prog 67 #[.agg #[.slice A0 xs.length cc, .int .i64 s.1, .bool s.2]] w (R7NPost (.slice A0 xs.length cc) (nextS xs s (2, [])) (lexS xs s (2, [])).num w) := by
  obtain ⟨k, f⟩ := s
  simp only at hkx
  cases f with
  | true =>
    rw [nextS_failed rfl, lexS_bad]
    clear hl
    go_enter Tryd.func67, Tryd.ntmps67
    go_wp2_with fail
    refine bodyPost_ret (v := .tuple #[.agg #[.slice A0 xs.length cc, .int .i64 k, .bool true], .int .i64 0]) (by simp [results, Tryd.results67, go_sem]) rfl ⟨rfl, ?_⟩
    exact bel_alloc (bel_alloc (Below.refl _ _))
  | false =>
    obtain ⟨x, hxe⟩ : ∃ x, lxAt xs k = x := ⟨_, rfl⟩
    obtain ⟨b, off, rfl, hb, hml, d0, _, d2, _⟩ := lx_reads hl hkx hxe
    have hb1 : b < w.heap.size + 1 := by omega
    have hb2 : b < w.heap.size + 1 + 1 := by omega
    by_cases h2 : x.kind = 2
    · obtain ⟨h3, h4⟩ := nextN2_t (by rw [hxe]; exact h2)
      rw [h3, h4, hxe]
      have hkb : (x.kind != 2) = false := by rw [h2]; rfl
      have hk1 : ((k : Int) + 1 - 1) = k := by omega
      clear hl hxe h3 h4 h2
      go_enter Tryd.func67, Tryd.ntmps67
      go_wp2_with fail
      go_region
      all_goals
        go_wp2_with fail
        refine bodyPost_ret (v := .tuple #[.agg #[.slice (some ⟨b, off, none⟩) xs.length cc, .int .i64 ((k : Int) + 1), .bool false], .int .i64 x.num]) (by simp [results, Tryd.results67, go_sem]) rfl ⟨rfl, ?_⟩
        first | exact bel_alloc (bel_alloc (Below.refl _ _)) | exact Below.drew (bel_alloc (bel_alloc (Below.refl _ _)))
    · obtain ⟨h3, h4⟩ := nextN2_f (by rw [hxe]; exact h2)
      rw [h3, h4]
      have hkb : (x.kind != 2) = true := by rw [bne_iff_ne]; exact h2
      clear hl hxe h3 h4 h2
      go_enter Tryd.func67, Tryd.ntmps67
      go_wp2_with fail
      refine bodyPost_ret (v := .tuple #[.agg #[.slice (some ⟨b, off, none⟩) xs.length cc, .int .i64 k, .bool true], .int .i64 0]) (by simp [results, Tryd.results67, go_sem]) rfl ⟨rfl, ?_⟩
      exact bel_alloc (bel_alloc (Below.refl _ _))

end Go.Proofs.YtabdlldkkcjppaaDoor

namespace Go.Proofs.YtabdlldkkcjppaaDoor
open Go.RowKit Saw

theorem two_more {w W W' : World} {lv lu : Value} {s u : Nat × Bool} (hb : Below W.heap.size W W') (g0 : IsR7 W w.heap.size lv s) (g1 : IsR7 W (w.heap.size + 1) lu u) : IsR7 W' w.heap.size lv s ∧ IsR7 W' (w.heap.size + 1) lu u := by
  have h0 := g0.cells.2.2.2.2.2.2
  have h1 := g1.cells.2.2.2.2.2.2
  exact ⟨g0.below hb h0, g1.below hb h1⟩

set_option maxRecDepth 100000 in
set_option maxHeartbeats 1000000 in
theorem rpart_any (A0 : Option Addr) (cc : Nat) (xs : List Lx) (s : Nat × Bool) (t : ByteArray) (pt : List UInt8) (hpt : bts t = pt) (hp0 : pt ≠ []) (w : World) (hl : Rd w w.heap.size 4 (.slice A0 xs.length cc) xs.length (lxsCells xs)) (hkx : s.1 < xs.length) (hk : xs.length < 1000000) (hend : LxEnds xs) (hnn : ∀ x ∈ xs, 0 ≤ x.num) :
    Calls Tryd.prog 79 #[.agg #[.slice A0 xs.length cc, .int .i64 s.1, .bool s.2], .string t] w (R7NPost (.slice A0 xs.length cc) (partS xs s pt).2 (partS xs s pt).1 w) := by
  subst hpt
  have HIS := Lib.hid (fun (W : World) (hb : Below w.heap.size w W) => ris_any A0 cc xs s 1 t W (hl.next hb) hkx hk)
  obtain ⟨k, f⟩ := s
  simp only at hkx HIS
  cases f with
  | true =>
    rw [partS_bad]
    clear HIS hl
    go_enter Tryd.func79, Tryd.ntmps79
    go_wp2_with fail
    refine bodyPost_ret (v := .tuple #[.agg #[.slice A0 xs.length cc, .int .i64 k, .bool true], .int .i64 0]) (by simp [results, Tryd.results79, go_sem]) rfl ⟨rfl, ?_⟩
    exact bel_alloc (bel_alloc (Below.refl _ _))
  | false =>
    obtain ⟨m, hm⟩ : ∃ m, lxIs (lxAt xs k) 1 (bts t) = m := ⟨_, rfl⟩
    rw [hm] at HIS
    cases m with
    | false =>
      rw [part_f hp0 hm]
      clear hm hl
      go_enter Tryd.func79, Tryd.ntmps79
      go_wp2_with fail
      refine (HIS.out _ (bel_alloc (bel_alloc (Below.refl _ _)))).mono ?_
      rintro e w1 ⟨he, hb⟩
      subst he
      obtain ⟨z1, g0, g1, hbb⟩ := two_r7 hb
      obtain ⟨c0, c1, c2, e0, e1, e2, _⟩ := g0.cells
      obtain ⟨p0, p1, p2, q0, q1, q2, _⟩ := g1.cells
      have HB := Lib.hid hbb
      have G1 := Lib.hid g1
      clear hb hbb g0 g1
      go_wp2_with fail
      refine bodyPost_ret (r7_res2 Tryd.results79 _ _ (w.heap.size + 1) rfl (IsR7.put (u := (k, false)) G1.out) rfl) rfl ⟨rfl, ?_⟩
      refine bel_set (bel_set (bel_set HB.out ?_) ?_) ?_ <;> omega
    | true =>
      have hk1 : k + 1 < xs.length := lxEnds_next hend hkx (by rw [lxIs, Bool.and_eq_true, beq_iff_eq] at hm; rw [hm.1]; decide)
      obtain ⟨y, hy⟩ : ∃ y, lxAt xs (k + 1) = y := ⟨_, rfl⟩
      obtain ⟨b, off, rfl, hbs, hml, d0, _, d2, _⟩ := lx_reads hl hk1 hy
      have hn0 : 0 ≤ y.num := hnn y (by rw [← hy]; exact List.mem_of_getElem? (lxAt_some hk1))
      obtain ⟨n', s', hpr⟩ : ∃ n' s', partS xs (k, false) (bts t) = (n', s') := ⟨_, _, rfl⟩
      have HPR := Lib.hid hpr
      have HPT := Lib.hid (part_t (xs := xs) hp0 hm)
      have HPB := Lib.hid (part_b (xs := xs) hp0 hm)
      have HNU := Lib.hid (fun (W : World) (hb : Below w.heap.size w W) => rnumber_any (some ⟨b, off, none⟩) cc xs (k + 1, false) W (hl.next hb) hk1 hk)
      have HY := Lib.hid hy
      rw [hpr]
      simp only
      clear hm hl hy hpr
      go_enter Tryd.func79, Tryd.ntmps79
      go_wp2_with fail
      refine (HIS.out _ (bel_alloc (bel_alloc (Below.refl _ _)))).mono ?_
      rintro e w1 ⟨he, hb⟩
      subst he
      obtain ⟨z1, g0, g1, hbb⟩ := two_r7 hb
      obtain ⟨c0, c1, c2, e0, e1, e2, _⟩ := g0.cells
      obtain ⟨p0, p1, p2, q0, q1, q2, _⟩ := g1.cells
      have d0' := (hbb.cell (p := ⟨b, off + (k + 1) * 4, none⟩) hbs).trans d0
      have d2' := (hbb.cell (p := ⟨b, off + (k + 1) * 4 + 2, none⟩) hbs).trans d2
      have hbn : b ≠ w.heap.size := by omega
      have hbn' : w.heap.size ≠ b := by omega
      have HB := Lib.hid hbb
      have G0 := Lib.hid g0
      have G1 := Lib.hid g1
      clear hb hbb g0 g1 d0 d2
      by_cases h2 : y.kind = 2
      · have hkb : (y.kind == 2) = true := by rw [h2]; rfl
        by_cases h0 : y.num = 0
        · have hnb : (y.num == 0) = true := by rw [h0]; rfl
          have hre : partS xs (k, false) (bts t) = (0, (k + 1, true)) := HPB.out (by rw [HY.out, numOk, h0]; simp)
          rw [HPR.out] at hre
          obtain ⟨rfl, rfl⟩ : n' = 0 ∧ s' = (k + 1, true) := by injection hre with q1 q2; exact ⟨q1, q2⟩
          clear hre h2 h0
          go_wp2_with fail
          refine bodyPost_ret (r7_res2 Tryd.results79 _ _ (w.heap.size + 1) rfl (IsR7.put (u := (k + 1, true)) ((G1.out.setO (by omega) _).setO (by omega) _)) rfl) rfl ⟨rfl, ?_⟩
          refine bel_set (bel_set (bel_set (bel_set (bel_set HB.out ?_) ?_) ?_) ?_) ?_ <;> omega
        · have hnb : (y.num == 0) = false := by rw [beq_eq_false_iff_ne]; exact h0
          obtain ⟨h3, h4⟩ := nextN2_t (xs := xs) (j := k + 1) (by rw [HY.out]; exact h2)
          have hre := (HPT.out (by rw [HY.out, numOk, h2]; simp; omega)).1
          rw [HPR.out, HY.out] at hre
          obtain ⟨rfl, rfl⟩ : n' = y.num ∧ s' = (k + 2, false) := by injection hre with q1 q2; exact ⟨q1, q2⟩
          rw [h3, h4, HY.out] at HNU
          clear hre h2 h0 h3 h4
          go_wp2_with fail
          refine (HNU.out _ (bel_set HB.out (Nat.le_refl _))).mono ?_
          rintro e w2 ⟨he, hb2⟩
          subst he
          obtain ⟨r0, r1⟩ := two_more hb2 (G0.out.at (k + 1)) (G1.out.setO (by omega) _)
          obtain ⟨p0, p1, p2, q0, q1, q2, _⟩ := r1.cells
          have R1 := Lib.hid r1
          have HB2 := Lib.hid (bel_call (bel_set HB.out (Nat.le_refl _)) hb2)
          clear hb2 r0 r1
          go_wp2_with fail
          refine bodyPost_ret (r7_res2 Tryd.results79 _ _ (w.heap.size + 1) rfl (IsR7.put (u := (k + 2, false)) R1.out) rfl) rfl ⟨rfl, ?_⟩
          refine bel_set (bel_set (bel_set HB2.out ?_) ?_) ?_ <;> omega
      · have hkb : (y.kind == 2) = false := by rw [beq_eq_false_iff_ne]; exact h2
        obtain ⟨h3, h4⟩ := nextN2_f (xs := xs) (j := k + 1) (by rw [HY.out]; exact h2)
        have hre := HPB.out (by rw [HY.out, numOk, hkb, Bool.false_and])
        rw [HPR.out] at hre
        obtain ⟨rfl, rfl⟩ : n' = 0 ∧ s' = (k + 1, true) := by injection hre with q1 q2; exact ⟨q1, q2⟩
        rw [h3, h4] at HNU
        clear hre h2 h3 h4
        go_wp2_with fail
        refine (HNU.out _ (bel_set HB.out (Nat.le_refl _))).mono ?_
        rintro e w2 ⟨he, hb2⟩
        subst he
        obtain ⟨r0, r1⟩ := two_more hb2 (G0.out.at (k + 1)) (G1.out.setO (by omega) _)
        obtain ⟨p0, p1, p2, q0, q1, q2, _⟩ := r1.cells
        have R1 := Lib.hid r1
        have HB2 := Lib.hid (bel_call (bel_set HB.out (Nat.le_refl _)) hb2)
        clear hb2 r0 r1
        go_wp2_with fail
        refine bodyPost_ret (r7_res2 Tryd.results79 _ _ (w.heap.size + 1) rfl (IsR7.put (u := (k + 1, true)) R1.out) rfl) rfl ⟨rfl, ?_⟩
        refine bel_set (bel_set (bel_set HB2.out ?_) ?_) ?_ <;> omega

end Go.Proofs.YtabdlldkkcjppaaDoor

namespace Go.RowKit
theorem results_cells {P : Program} {fn : Func} {p q : Tmp} {ty ty2 : TypeId} (h : fn.results = #[.cell p ty, .cell q ty2]) (tmps : Array Value) (w : World) (g g2 : Nat) (cs cs2 : List Value) {td td2 : TypeDesc}
    (hp : tmps.getD p undef = .pointer (some ⟨g, 0, none⟩)) (hc : w.rangeAt g 0 cs) (hu : P.underlying ty = some td) (hd : td.isRow = true) (hi : (P.info? ty).map (·.size) = some cs.length)
    (hq : tmps.getD q undef = .pointer (some ⟨g2, 0, none⟩)) (hc2 : w.rangeAt g2 0 cs2) (hu2 : P.underlying ty2 = some td2) (hd2 : td2.isRow = true) (hi2 : (P.info? ty2).map (·.size) = some cs2.length) :
    (results fn tmps).run P w = .ok (.tuple #[.agg cs.toArray, .agg cs2.toArray]) w := by
  have hp' : tmps[p]?.getD undef = .pointer (some ⟨g, 0, none⟩) := by simpa using hp
  have hq' : tmps[q]?.getD undef = .pointer (some ⟨g2, 0, none⟩) := by simpa using hq
  simp [results, h, hp', hq', asAddr, run_loadVar_mid w g 0 ty cs td hc hu hd hi, run_loadVar_mid w g2 0 ty2 cs2 td2 hc2 hu2 hd2 hi2]
end Go.RowKit
namespace Go.Proofs.YtabdlldkkcjppaaDoor
open Go.RowKit Saw

def IsStg (w : World) (g : Nat) (x : Stg) : Prop := w.heap[g]? = some (.cells #[.int .i64 x.below, .int .i64 x.ticks, .int .i64 x.temp, .int .i64 x.dep] 52 (0, 0))
section
variable {w w' : World} {g : Nat} {x : Stg} {B : Nat}
theorem IsStg.cells (h : IsStg w g x) : w.cell? ⟨g, 0, none⟩ = some (.int .i64 x.below) ∧ w.cell? ⟨g, 1, none⟩ = some (.int .i64 x.ticks) ∧ w.cell? ⟨g, 2, none⟩ = some (.int .i64 x.temp) ∧ w.cell? ⟨g, 3, none⟩ = some (.int .i64 x.dep) ∧ w.frozen? ⟨g, 0, none⟩ = false ∧ w.frozen? ⟨g, 1, none⟩ = false ∧ w.frozen? ⟨g, 2, none⟩ = false ∧ w.frozen? ⟨g, 3, none⟩ = false ∧ g < w.heap.size := by
  refine ⟨cell_of_box h rfl, cell_of_box h rfl, cell_of_box h rfl, cell_of_box h rfl, ?_, ?_, ?_, ?_, (Array.getElem?_eq_some_iff.1 h).1⟩ <;> · unfold IsStg at h; simp [World.frozen?, h]
theorem IsStg.below (h : IsStg w g x) (hb : Below B w w') (hB : g < B) : IsStg w' g x := (hb.block g hB).trans h
theorem IsStg.setO (h : IsStg w g x) {g' i : Nat} (hne : g ≠ g') (v : Value) : IsStg (w.setCell ⟨g', i, none⟩ v) g x := (Below.heap_setCell _ _ _ _ hne).trans h
theorem IsStg.set (h : IsStg w g x) (j : Nat) (v : Value) (y : Stg) (hy : (#[.int .i64 x.below, .int .i64 x.ticks, .int .i64 x.temp, .int .i64 x.dep] : Array Value).setIfInBounds j v = #[.int .i64 y.below, .int .i64 y.ticks, .int .i64 y.temp, .int .i64 y.dep]) : IsStg (w.setCell ⟨g, j, none⟩ v) g y := by
  unfold IsStg
  rw [← hy]
  exact set3_heap' h v j
theorem IsStg.put {y : Stg} (h : IsStg w g x) : IsStg ((((w.setCell ⟨g, 0, none⟩ (.int .i64 y.below)).setCell ⟨g, 1, none⟩ (.int .i64 y.ticks)).setCell ⟨g, 2, none⟩ (.int .i64 y.temp)).setCell ⟨g, 3, none⟩ (.int .i64 y.dep)) g y :=
  (((h.set 0 (.int .i64 y.below) ⟨y.below, x.ticks, x.temp, x.dep⟩ rfl).set 1 (.int .i64 y.ticks) ⟨y.below, y.ticks, x.temp, x.dep⟩ rfl).set 2 (.int .i64 y.temp) ⟨y.below, y.ticks, y.temp, x.dep⟩ rfl).set 3 (.int .i64 y.dep) y rfl
end
/-- How memory stands while a stage is read: the reader, both results, the stage. -/
def RgSt (w W : World) (lv : Value) (s : Nat × Bool) (x : Stg) : Prop :=
  IsR7 W w.heap.size lv s ∧ IsR7 W (w.heap.size + 1) (.slice none 0 0) (0, false) ∧ IsStg W (w.heap.size + 1 + 1) Stg.zero ∧ IsStg W (w.heap.size + 1 + 1 + 1) x ∧ Below w.heap.size w W
section
variable {w W W' : World} {lv : Value} {s u : Nat × Bool} {x y : Stg}
theorem RgSt.lt (h : RgSt w W lv s x) : w.heap.size + 1 + 1 + 1 < W.heap.size := h.2.2.2.1.cells.2.2.2.2.2.2.2.2
theorem RgSt.call (h : RgSt w W lv s x) (hb : Below W.heap.size W W') : RgSt w W' lv s x := by
  have hl := h.lt
  exact ⟨h.1.below hb (by omega), h.2.1.below hb (by omega), h.2.2.1.below hb (by omega), h.2.2.2.1.below hb (by omega), bel_call h.2.2.2.2 hb⟩
theorem RgSt.drew (h : RgSt w W lv s x) : RgSt w W.drew lv s x := ⟨h.1, h.2.1, h.2.2.1, h.2.2.2.1, h.2.2.2.2.drew⟩
theorem RgSt.put (h : RgSt w W lv s x) : RgSt w (((W.setCell ⟨w.heap.size, 0, none⟩ lv).setCell ⟨w.heap.size, 1, none⟩ (.int .i64 u.1)).setCell ⟨w.heap.size, 2, none⟩ (.bool u.2)) lv u x :=
  ⟨h.1.put, ((h.2.1.setO (by omega) _).setO (by omega) _).setO (by omega) _, ((h.2.2.1.setO (by omega) _).setO (by omega) _).setO (by omega) _, ((h.2.2.2.1.setO (by omega) _).setO (by omega) _).setO (by omega) _, bel_set (bel_set (bel_set h.2.2.2.2 (by omega)) (by omega)) (by omega)⟩
theorem RgSt.bad (h : RgSt w W lv s x) : RgSt w (W.setCell ⟨w.heap.size, 2, none⟩ (.bool true)) lv (s.1, true) x :=
  ⟨h.1.bad true, h.2.1.setO (by omega) _, h.2.2.1.setO (by omega) _, h.2.2.2.1.setO (by omega) _, bel_set h.2.2.2.2 (by omega)⟩
theorem RgSt.set (h : RgSt w W lv s x) (j : Nat) (v : Value) (y : Stg) (hy : (#[.int .i64 x.below, .int .i64 x.ticks, .int .i64 x.temp, .int .i64 x.dep] : Array Value).setIfInBounds j v = #[.int .i64 y.below, .int .i64 y.ticks, .int .i64 y.temp, .int .i64 y.dep]) : RgSt w (W.setCell ⟨w.heap.size + 1 + 1 + 1, j, none⟩ v) lv s y :=
  ⟨h.1.setO (by omega) _, h.2.1.setO (by omega) _, h.2.2.1.setO (by omega) _, h.2.2.2.1.set j v y hy, bel_set h.2.2.2.2 (by omega)⟩
end
/-- The four blocks are new. -/
theorem four_new (w : World) (lv : Value) (s : Nat × Bool) : RgSt w ((((w.alloc (.cells #[lv, .int .i64 s.1, .bool s.2] 80)).alloc (.cells #[.slice none 0 0, .int .i64 0, .bool false] 80)).alloc (.cells #[.int .i64 0, .int .i64 0, .int .i64 0, .int .i64 0] 52)).alloc (.cells #[.int .i64 0, .int .i64 0, .int .i64 0, .int .i64 0] 52)) lv s ⟨0, 0, 0, 0⟩ := by
  obtain ⟨w1, h1⟩ : ∃ w1, w.alloc (.cells #[lv, .int .i64 s.1, .bool s.2] 80) = w1 := ⟨_, rfl⟩
  obtain ⟨w2, h2⟩ : ∃ w2, w1.alloc (.cells #[.slice none 0 0, .int .i64 0, .bool false] 80) = w2 := ⟨_, rfl⟩
  obtain ⟨w3, h3⟩ : ∃ w3, w2.alloc (.cells #[.int .i64 0, .int .i64 0, .int .i64 0, .int .i64 0] 52) = w3 := ⟨_, rfl⟩
  obtain ⟨w4, h4⟩ : ∃ w4, w3.alloc (.cells #[.int .i64 0, .int .i64 0, .int .i64 0, .int .i64 0] 52) = w4 := ⟨_, rfl⟩
  have z1 : w1.heap.size = w.heap.size + 1 := by rw [← h1, World.size_alloc]
  have z2 : w2.heap.size = w.heap.size + 1 + 1 := by rw [← h2, World.size_alloc, z1]
  have z3 : w3.heap.size = w.heap.size + 1 + 1 + 1 := by rw [← h3, World.size_alloc, z2]
  have b1 := heap_alloc_last w (.cells #[lv, .int .i64 s.1, .bool s.2] 80)
  have b2 := heap_alloc_last w1 (.cells #[.slice none 0 0, .int .i64 0, .bool false] 80)
  have b3 := heap_alloc_last w2 (.cells #[.int .i64 0, .int .i64 0, .int .i64 0, .int .i64 0] 52)
  have b4 := heap_alloc_last w3 (.cells #[.int .i64 0, .int .i64 0, .int .i64 0, .int .i64 0] 52)
  rw [h1] at b1
  rw [h2, z1] at b2
  rw [h3, z2] at b3
  rw [h4, z3] at b4
  have k : Below w.heap.size w w4 := by rw [← h4, ← h3, ← h2, ← h1]; exact bel_alloc (bel_alloc (bel_alloc (bel_alloc (Below.refl _ _))))
  rw [h1, h2, h3, h4]
  refine ⟨?_, ?_, ?_, b4, k⟩
  · rw [← h4, ← h3, ← h2]; exact hpA (hpA (hpA b1 _) _) _
  · rw [← h4, ← h3]; exact hpA (hpA b2 _) _
  · rw [← h4]; exact hpA b3 _
theorem stg_res {W : World} {g g2 : Nat} {lv : Value} {s : Nat × Bool} {x : Stg} (tmps : Array Value) (hp : tmps.getD 2 undef = .pointer (some ⟨g, 0, none⟩)) (hg : IsR7 W g lv s) (hq : tmps.getD 3 undef = .pointer (some ⟨g2, 0, none⟩)) (hx : IsStg W g2 x) :
    (results Tryd.f69 tmps).run Tryd.prog W = .ok (.tuple #[.agg #[lv, .int .i64 s.1, .bool s.2], .agg #[.int .i64 x.below, .int .i64 x.ticks, .int .i64 x.temp, .int .i64 x.dep]]) W :=
  results_cells Tryd.results69 tmps W g g2 [lv, .int .i64 s.1, .bool s.2] [.int .i64 x.below, .int .i64 x.ticks, .int .i64 x.temp, .int .i64 x.dep] hp (rangeAt_block hg) Tryd.underlying80 rfl r7_info hq (rangeAt_block hx) Tryd.underlying52 rfl stg_info
def R7SPost (lv : Value) (s' : Nat × Bool) (x : Stg) (w : World) (e : Ending) (w' : World) : Prop :=
  e = .returned (.tuple #[.agg #[lv, .int .i64 s'.1, .bool s'.2], .agg #[.int .i64 x.below, .int .i64 x.ticks, .int .i64 x.temp, .int .i64 x.dep]]) ∧ Below w.heap.size w w'

set_option maxRecDepth 100000 in
set_option maxHeartbeats 2000000 in
theorem rstage_any (A0 : Option Addr) (cc : Nat) (xs : List Lx) (s : Nat × Bool) (w : World) (hl : Rd w w.heap.size 4 (.slice A0 xs.length cc) xs.length (lxsCells xs)) (hkx : s.1 < xs.length) (hk : xs.length < 1000000) (hend : LxEnds xs) (hnn : ∀ x ∈ xs, 0 ≤ x.num) :
    Calls Tryd.prog 69 #[.agg #[.slice A0 xs.length cc, .int .i64 s.1, .bool s.2]] w (R7SPost (.slice A0 xs.length cc) (stgS xs s).2 (stgS xs s).1 w) := by
  obtain ⟨i1, i2, i3, i4, i5, i6, i7, i8⟩ := stg_in hend hkx
  have HL := Lib.hid (fun (W : World) (hb : Below w.heap.size w W) => (hl.next hb))
  have HEND := Lib.hid hend
  have HNN := Lib.hid hnn
  obtain ⟨R, hR⟩ : ∃ R, stgS xs s = R := ⟨_, rfl⟩
  have HR := Lib.hid hR
  rw [hR]
  obtain ⟨n1, hn1⟩ : ∃ n, (partS xs s belowW).1 = n := ⟨_, rfl⟩
  obtain ⟨n2, hn2⟩ : ∃ n, (partS xs (stg1 xs s) forW).1 = n := ⟨_, rfl⟩
  obtain ⟨s1, hs1⟩ : ∃ s', stg1 xs s = s' := ⟨_, rfl⟩
  obtain ⟨s2, hs2⟩ : ∃ s', stg2 xs s = s' := ⟨_, rfl⟩
  obtain ⟨s3, hs3⟩ : ∃ s', stg3 xs s = s' := ⟨_, rfl⟩
  obtain ⟨s4, hs4⟩ : ∃ s', stg4 xs s = s' := ⟨_, rfl⟩
  obtain ⟨s5, hs5⟩ : ∃ s', stg5 xs s = s' := ⟨_, rfl⟩
  obtain ⟨s6, hs6⟩ : ∃ s', stg6 xs s = s' := ⟨_, rfl⟩
  obtain ⟨s7, hs7⟩ : ∃ s', stg7 xs s = s' := ⟨_, rfl⟩
  obtain ⟨s8, hs8⟩ : ∃ s', stg8 xs s = s' := ⟨_, rfl⟩
  obtain ⟨n3, hn3⟩ : ∃ n, (lexS xs s4 (2, [])).num = n := ⟨_, rfl⟩
  obtain ⟨n4, hn4⟩ : ∃ n, (lexS xs s6 (2, [])).num = n := ⟨_, rfl⟩
  rw [hs1] at hn2 i1
  rw [hs2] at i2
  rw [hs3] at i3
  rw [hs4] at i4
  rw [hs5] at i5
  rw [hs6] at i6
  rw [hs7] at i7
  have hRe : R = (⟨n1, n2, n3, n4⟩, s8) := by rw [← hR, stgS, hs8, hs1, hs4, hs6, hn1, hn2, hn3, hn4]
  subst hRe
  have HP1 := Lib.hid (show partS xs s belowW = (n1, s1) by rw [← hn1, ← hs1]; rfl)
  have HP2 := Lib.hid (show partS xs s1 forW = (n2, s2) by rw [← hn2, ← hs2, stg2, hs1])
  have HP3 := Lib.hid (show s3 = if n1 = 0 ∧ n2 = 0 then (s2.1, true) else s2 by rw [← hs3, stg3, hs2, hs1, hn1, hn2])
  have HP4 := Lib.hid (show nextS xs s3 (1, atW) = s4 by rw [← hs4, stg4, hs3])
  have HP5 := Lib.hid (show nextS xs s4 (2, []) = s5 by rw [← hs5, stg5, hs4])
  have HP6 := Lib.hid (show nextS xs s5 (3, [45]) = s6 by rw [← hs6, stg6, hs5])
  have HP7 := Lib.hid (show nextS xs s6 (2, []) = s7 by rw [← hs7, stg7, hs6])
  have HP8 := Lib.hid (show nextS xs s7 (3, [59]) = s8 by rw [← hs8, stg8, hs7])
  have HN3 := Lib.hid hn3
  have HN4 := Lib.hid hn4
  clear hl hend hnn hR HR hn1 hn2 hs1 hs2 hs3 hs4 hs5 hs6 hs7 hs8 hn3 hn4 i8
  have HS0 := Lib.hid (show RgSt w ((((w.alloc (.cells #[.slice A0 xs.length cc, .int .i64 s.1, .bool s.2] 80)).alloc (.cells #[.slice none 0 0, .int .i64 0, .bool false] 80)).alloc (.cells #[.int .i64 0, .int .i64 0, .int .i64 0, .int .i64 0] 52)).alloc (.cells #[.int .i64 0, .int .i64 0, .int .i64 0, .int .i64 0] 52)) (.slice A0 xs.length cc) s ⟨0, 0, 0, 0⟩ from four_new w _ s)
  go_enter Tryd.func69, Tryd.ntmps69
  go_wp2_with fail
  refine (rpart_any A0 cc xs s _ belowW rfl (by decide) _ (HL.out _ HS0.out.2.2.2.2) hkx hk HEND.out HNN.out).mono ?_
  rintro e w1 ⟨he, hb⟩
  rw [HP1.out] at he
  subst he
  have HC1 := Lib.hid (HS0.out.call hb)
  obtain ⟨a0, a1, a2, e0, e1, e2, _⟩ := HC1.out.1.cells
  obtain ⟨x0, x1, x2, x3, f0, f1, f2, f3, _⟩ := HC1.out.2.2.2.1.cells
  have hz := HC1.out.lt
  clear hb
  have hst := (HC1.out.put (u := s1)).set 0 (.int .i64 n1) ⟨n1, 0, 0, 0⟩ rfl
  go_upto_region 3 with fail
  clear a0 a1 a2 e0 e1 e2 x0 x1 x2 x3 f0 f1 f2 f3 hz
  obtain ⟨W1, hW⟩ : ∃ W, (((w1.setCell ⟨w.heap.size, 0, none⟩ (.slice A0 xs.length cc)).setCell ⟨w.heap.size, 1, none⟩ (.int .i64 s1.1)).setCell ⟨w.heap.size, 2, none⟩ (.bool s1.2)).setCell ⟨w.heap.size + 1 + 1 + 1, 0, none⟩ (.int .i64 n1) = W := ⟨_, rfl⟩
  rw [hW] at hst
  rw [hW]
  have HS1 := Lib.hid hst
  clear hW hst HC1
  obtain ⟨a0, a1, a2, e0, e1, e2, _⟩ := HS1.out.1.cells
  obtain ⟨x0, x1, x2, x3, f0, f1, f2, f3, _⟩ := HS1.out.2.2.2.1.cells
  have hz := HS1.out.lt
  go_wp2_with fail
  clear a0 a1 a2 e0 e1 e2 x0 x1 x2 x3 f0 f1 f2 f3 hz
  refine (rpart_any A0 cc xs s1 _ forW rfl (by decide) _ (HL.out _ HS1.out.2.2.2.2) i1 hk HEND.out HNN.out).mono ?_
  rintro e w2 ⟨he, hb⟩
  rw [HP2.out] at he
  subst he
  have HC2 := Lib.hid (HS1.out.call hb)
  obtain ⟨a0, a1, a2, e0, e1, e2, _⟩ := HC2.out.1.cells
  obtain ⟨x0, x1, x2, x3, f0, f1, f2, f3, _⟩ := HC2.out.2.2.2.1.cells
  have hz := HC2.out.lt
  clear hb
  have hst := (HC2.out.put (u := s2)).set 1 (.int .i64 n2) ⟨n1, n2, 0, 0⟩ rfl
  go_upto_region 4 with fail
  clear a0 a1 a2 e0 e1 e2 x0 x1 x2 x3 f0 f1 f2 f3 hz
  obtain ⟨W2, hW⟩ : ∃ W, (((w2.setCell ⟨w.heap.size, 0, none⟩ (.slice A0 xs.length cc)).setCell ⟨w.heap.size, 1, none⟩ (.int .i64 s2.1)).setCell ⟨w.heap.size, 2, none⟩ (.bool s2.2)).setCell ⟨w.heap.size + 1 + 1 + 1, 1, none⟩ (.int .i64 n2) = W := ⟨_, rfl⟩
  rw [hW] at hst
  rw [hW]
  have HS2 := Lib.hid hst
  clear hW hst HC2
  obtain ⟨a0, a1, a2, e0, e1, e2, _⟩ := HS2.out.1.cells
  obtain ⟨x0, x1, x2, x3, f0, f1, f2, f3, _⟩ := HS2.out.2.2.2.1.cells
  have hz := HS2.out.lt
  by_cases h00 : n1 = 0 ∧ n2 = 0
  · obtain ⟨h01, h02⟩ := h00
    have hb1 : (n1 == 0) = true := by rw [h01]; rfl
    have hb2 : (n2 == 0) = true := by rw [h02]; rfl
    obtain rfl : s3 = (s2.1, true) := by rw [HP3.out, if_pos ⟨h01, h02⟩]
    have hst := HS2.out.bad
    go_upto_region 6 with fail
    clear a0 a1 a2 e0 e1 e2 x0 x1 x2 x3 f0 f1 f2 f3 hz
    obtain ⟨W3, hW⟩ : ∃ W, W2.setCell ⟨w.heap.size, 2, none⟩ (.bool true) = W := ⟨_, rfl⟩
    rw [hW] at hst
    rw [hW]
    have HS3 := Lib.hid hst
    clear hW hst h01 h02 HP3
    obtain ⟨a0, a1, a2, e0, e1, e2, _⟩ := HS3.out.1.cells
    obtain ⟨x0, x1, x2, x3, f0, f1, f2, f3, _⟩ := HS3.out.2.2.2.1.cells
    have hz := HS3.out.lt
    go_wp2_with fail
    clear a0 a1 a2 e0 e1 e2 x0 x1 x2 x3 f0 f1 f2 f3 hz
    refine (rtake_any A0 cc xs (s2.1, true) 1 _ atW rfl (by decide) _ (HL.out _ HS3.out.2.2.2.2) i3 hk).mono ?_
    rintro e w4 ⟨he, hb⟩
    rw [HP4.out] at he
    subst he
    have HC4 := Lib.hid (HS3.out.call hb)
    obtain ⟨a0, a1, a2, e0, e1, e2, _⟩ := HC4.out.1.cells
    obtain ⟨x0, x1, x2, x3, f0, f1, f2, f3, _⟩ := HC4.out.2.2.2.1.cells
    have hz := HC4.out.lt
    clear hb
    have hst := HC4.out.put (u := s4)
    go_upto_region 7 with fail
    clear a0 a1 a2 e0 e1 e2 x0 x1 x2 x3 f0 f1 f2 f3 hz
    obtain ⟨W4, hW⟩ : ∃ W, ((w4.setCell ⟨w.heap.size, 0, none⟩ (.slice A0 xs.length cc)).setCell ⟨w.heap.size, 1, none⟩ (.int .i64 s4.1)).setCell ⟨w.heap.size, 2, none⟩ (.bool s4.2) = W := ⟨_, rfl⟩
    rw [hW] at hst
    rw [hW]
    have HS4 := Lib.hid hst
    clear hW hst HC4
    obtain ⟨a0, a1, a2, e0, e1, e2, _⟩ := HS4.out.1.cells
    obtain ⟨x0, x1, x2, x3, f0, f1, f2, f3, _⟩ := HS4.out.2.2.2.1.cells
    have hz := HS4.out.lt
    go_wp2_with fail
    clear a0 a1 a2 e0 e1 e2 x0 x1 x2 x3 f0 f1 f2 f3 hz
    refine (rnumber_any A0 cc xs s4 _ (HL.out _ HS4.out.2.2.2.2) i4 hk).mono ?_
    rintro e w5 ⟨he, hb⟩
    rw [HP5.out, HN3.out] at he
    subst he
    have HC5 := Lib.hid (HS4.out.call hb)
    obtain ⟨a0, a1, a2, e0, e1, e2, _⟩ := HC5.out.1.cells
    obtain ⟨x0, x1, x2, x3, f0, f1, f2, f3, _⟩ := HC5.out.2.2.2.1.cells
    have hz := HC5.out.lt
    clear hb
    have hst := (HC5.out.put (u := s5)).set 2 (.int .i64 n3) ⟨n1, n2, n3, 0⟩ rfl
    go_upto_region 8 with fail
    clear a0 a1 a2 e0 e1 e2 x0 x1 x2 x3 f0 f1 f2 f3 hz
    obtain ⟨W5, hW⟩ : ∃ W, (((w5.setCell ⟨w.heap.size, 0, none⟩ (.slice A0 xs.length cc)).setCell ⟨w.heap.size, 1, none⟩ (.int .i64 s5.1)).setCell ⟨w.heap.size, 2, none⟩ (.bool s5.2)).setCell ⟨w.heap.size + 1 + 1 + 1, 2, none⟩ (.int .i64 n3) = W := ⟨_, rfl⟩
    rw [hW] at hst
    rw [hW]
    have HS5 := Lib.hid hst
    clear hW hst HC5
    obtain ⟨a0, a1, a2, e0, e1, e2, _⟩ := HS5.out.1.cells
    obtain ⟨x0, x1, x2, x3, f0, f1, f2, f3, _⟩ := HS5.out.2.2.2.1.cells
    have hz := HS5.out.lt
    go_wp2_with fail
    clear a0 a1 a2 e0 e1 e2 x0 x1 x2 x3 f0 f1 f2 f3 hz
    refine (rtake_any A0 cc xs s5 3 _ [45] rfl (by decide) _ (HL.out _ HS5.out.2.2.2.2) i5 hk).mono ?_
    rintro e w6 ⟨he, hb⟩
    rw [HP6.out] at he
    subst he
    have HC6 := Lib.hid (HS5.out.call hb)
    obtain ⟨a0, a1, a2, e0, e1, e2, _⟩ := HC6.out.1.cells
    obtain ⟨x0, x1, x2, x3, f0, f1, f2, f3, _⟩ := HC6.out.2.2.2.1.cells
    have hz := HC6.out.lt
    clear hb
    have hst := HC6.out.put (u := s6)
    go_upto_region 9 with fail
    clear a0 a1 a2 e0 e1 e2 x0 x1 x2 x3 f0 f1 f2 f3 hz
    obtain ⟨W6, hW⟩ : ∃ W, ((w6.setCell ⟨w.heap.size, 0, none⟩ (.slice A0 xs.length cc)).setCell ⟨w.heap.size, 1, none⟩ (.int .i64 s6.1)).setCell ⟨w.heap.size, 2, none⟩ (.bool s6.2) = W := ⟨_, rfl⟩
    rw [hW] at hst
    rw [hW]
    have HS6 := Lib.hid hst
    clear hW hst HC6
    obtain ⟨a0, a1, a2, e0, e1, e2, _⟩ := HS6.out.1.cells
    obtain ⟨x0, x1, x2, x3, f0, f1, f2, f3, _⟩ := HS6.out.2.2.2.1.cells
    have hz := HS6.out.lt
    go_wp2_with fail
    clear a0 a1 a2 e0 e1 e2 x0 x1 x2 x3 f0 f1 f2 f3 hz
    refine (rnumber_any A0 cc xs s6 _ (HL.out _ HS6.out.2.2.2.2) i6 hk).mono ?_
    rintro e w7 ⟨he, hb⟩
    rw [HP7.out, HN4.out] at he
    subst he
    have HC7 := Lib.hid (HS6.out.call hb)
    obtain ⟨a0, a1, a2, e0, e1, e2, _⟩ := HC7.out.1.cells
    obtain ⟨x0, x1, x2, x3, f0, f1, f2, f3, _⟩ := HC7.out.2.2.2.1.cells
    have hz := HC7.out.lt
    clear hb
    have hst := (HC7.out.put (u := s7)).set 3 (.int .i64 n4) ⟨n1, n2, n3, n4⟩ rfl
    go_upto_region 10 with fail
    clear a0 a1 a2 e0 e1 e2 x0 x1 x2 x3 f0 f1 f2 f3 hz
    obtain ⟨W7, hW⟩ : ∃ W, (((w7.setCell ⟨w.heap.size, 0, none⟩ (.slice A0 xs.length cc)).setCell ⟨w.heap.size, 1, none⟩ (.int .i64 s7.1)).setCell ⟨w.heap.size, 2, none⟩ (.bool s7.2)).setCell ⟨w.heap.size + 1 + 1 + 1, 3, none⟩ (.int .i64 n4) = W := ⟨_, rfl⟩
    rw [hW] at hst
    rw [hW]
    have HS7 := Lib.hid hst
    clear hW hst HC7
    obtain ⟨a0, a1, a2, e0, e1, e2, _⟩ := HS7.out.1.cells
    obtain ⟨x0, x1, x2, x3, f0, f1, f2, f3, _⟩ := HS7.out.2.2.2.1.cells
    have hz := HS7.out.lt
    go_region_with (go_at_call 66; refine (rtake_any A0 cc xs s7 3 _ [59] rfl (by decide) _ (HL.out _ HS7.out.drew.2.2.2.2) i7 hk).mono ?_; rintro e wf ⟨he, hb⟩; rw [HP8.out] at he; subst he; have HF := Lib.hid (HS7.out.drew.call hb); obtain ⟨b0, b1, b2, g0, g1, g2, _⟩ := HF.out.1.cells; obtain ⟨y0, y1, y2, y3, h0, h1, h2, h3, _⟩ := HF.out.2.2.2.1.cells; obtain ⟨r0, r1, r2, q0, q1, q2, _⟩ := HF.out.2.1.cells; obtain ⟨t0, t1, t2, t3, v0, v1, v2, v3, _⟩ := HF.out.2.2.1.cells; have hzf := HF.out.lt; clear hb)
    all_goals
      go_wp2_with fail
      first
        | (refine bodyPost_ret (stg_res _ rfl ((((IsR7.put (u := s8) HF.out.2.1).setO (by omega) _).setO (by omega) _).setO (by omega) _ |>.setO (by omega) _) rfl (IsStg.put (y := ⟨n1, n2, n3, n4⟩) (((HF.out.2.2.1.setO (by omega) _).setO (by omega) _).setO (by omega) _))) rfl ⟨rfl, ?_⟩
           refine bel_set (bel_set (bel_set (bel_set (bel_set (bel_set (bel_set HF.out.2.2.2.2 ?_) ?_) ?_) ?_) ?_) ?_) ?_ <;> omega)
        | (refine bodyPost_ret (stg_res _ rfl (IsR7.put (u := s8) ((((HF.out.2.1.setO (by omega) _).setO (by omega) _).setO (by omega) _).setO (by omega) _)) rfl ((((IsStg.put (y := ⟨n1, n2, n3, n4⟩) HF.out.2.2.1).setO (by omega) _).setO (by omega) _).setO (by omega) _)) rfl ⟨rfl, ?_⟩
           refine bel_set (bel_set (bel_set (bel_set (bel_set (bel_set (bel_set HF.out.2.2.2.2 ?_) ?_) ?_) ?_) ?_) ?_) ?_ <;> omega)
  · have hs3 : s3 = s2 := by rw [HP3.out, if_neg h00]
    have HS3 := Lib.hid HS2.out
    subst hs3
    clear HP3
    by_cases h01 : n1 = 0
    · have h02 : n2 ≠ 0 := fun h => h00 ⟨h01, h⟩
      have hb1 : (n1 == 0) = true := by rw [h01]; rfl
      have hb2 : (n2 == 0) = false := by rw [beq_eq_false_iff_ne]; exact h02
      clear h00 h01 h02
      go_wp2_with fail
      clear a0 a1 a2 e0 e1 e2 x0 x1 x2 x3 f0 f1 f2 f3 hz
      refine (rtake_any A0 cc xs s3 1 _ atW rfl (by decide) _ (HL.out _ HS3.out.2.2.2.2) i3 hk).mono ?_
      rintro e w4 ⟨he, hb⟩
      rw [HP4.out] at he
      subst he
      have HC4 := Lib.hid (HS3.out.call hb)
      obtain ⟨a0, a1, a2, e0, e1, e2, _⟩ := HC4.out.1.cells
      obtain ⟨x0, x1, x2, x3, f0, f1, f2, f3, _⟩ := HC4.out.2.2.2.1.cells
      have hz := HC4.out.lt
      clear hb
      have hst := HC4.out.put (u := s4)
      go_upto_region 7 with fail
      clear a0 a1 a2 e0 e1 e2 x0 x1 x2 x3 f0 f1 f2 f3 hz
      obtain ⟨W4, hW⟩ : ∃ W, ((w4.setCell ⟨w.heap.size, 0, none⟩ (.slice A0 xs.length cc)).setCell ⟨w.heap.size, 1, none⟩ (.int .i64 s4.1)).setCell ⟨w.heap.size, 2, none⟩ (.bool s4.2) = W := ⟨_, rfl⟩
      rw [hW] at hst
      rw [hW]
      have HS4 := Lib.hid hst
      clear hW hst HC4
      obtain ⟨a0, a1, a2, e0, e1, e2, _⟩ := HS4.out.1.cells
      obtain ⟨x0, x1, x2, x3, f0, f1, f2, f3, _⟩ := HS4.out.2.2.2.1.cells
      have hz := HS4.out.lt
      go_wp2_with fail
      clear a0 a1 a2 e0 e1 e2 x0 x1 x2 x3 f0 f1 f2 f3 hz
      refine (rnumber_any A0 cc xs s4 _ (HL.out _ HS4.out.2.2.2.2) i4 hk).mono ?_
      rintro e w5 ⟨he, hb⟩
      rw [HP5.out, HN3.out] at he
      subst he
      have HC5 := Lib.hid (HS4.out.call hb)
      obtain ⟨a0, a1, a2, e0, e1, e2, _⟩ := HC5.out.1.cells
      obtain ⟨x0, x1, x2, x3, f0, f1, f2, f3, _⟩ := HC5.out.2.2.2.1.cells
      have hz := HC5.out.lt
      clear hb
      have hst := (HC5.out.put (u := s5)).set 2 (.int .i64 n3) ⟨n1, n2, n3, 0⟩ rfl
      go_upto_region 8 with fail
      clear a0 a1 a2 e0 e1 e2 x0 x1 x2 x3 f0 f1 f2 f3 hz
      obtain ⟨W5, hW⟩ : ∃ W, (((w5.setCell ⟨w.heap.size, 0, none⟩ (.slice A0 xs.length cc)).setCell ⟨w.heap.size, 1, none⟩ (.int .i64 s5.1)).setCell ⟨w.heap.size, 2, none⟩ (.bool s5.2)).setCell ⟨w.heap.size + 1 + 1 + 1, 2, none⟩ (.int .i64 n3) = W := ⟨_, rfl⟩
      rw [hW] at hst
      rw [hW]
      have HS5 := Lib.hid hst
      clear hW hst HC5
      obtain ⟨a0, a1, a2, e0, e1, e2, _⟩ := HS5.out.1.cells
      obtain ⟨x0, x1, x2, x3, f0, f1, f2, f3, _⟩ := HS5.out.2.2.2.1.cells
      have hz := HS5.out.lt
      go_wp2_with fail
      clear a0 a1 a2 e0 e1 e2 x0 x1 x2 x3 f0 f1 f2 f3 hz
      refine (rtake_any A0 cc xs s5 3 _ [45] rfl (by decide) _ (HL.out _ HS5.out.2.2.2.2) i5 hk).mono ?_
      rintro e w6 ⟨he, hb⟩
      rw [HP6.out] at he
      subst he
      have HC6 := Lib.hid (HS5.out.call hb)
      obtain ⟨a0, a1, a2, e0, e1, e2, _⟩ := HC6.out.1.cells
      obtain ⟨x0, x1, x2, x3, f0, f1, f2, f3, _⟩ := HC6.out.2.2.2.1.cells
      have hz := HC6.out.lt
      clear hb
      have hst := HC6.out.put (u := s6)
      go_upto_region 9 with fail
      clear a0 a1 a2 e0 e1 e2 x0 x1 x2 x3 f0 f1 f2 f3 hz
      obtain ⟨W6, hW⟩ : ∃ W, ((w6.setCell ⟨w.heap.size, 0, none⟩ (.slice A0 xs.length cc)).setCell ⟨w.heap.size, 1, none⟩ (.int .i64 s6.1)).setCell ⟨w.heap.size, 2, none⟩ (.bool s6.2) = W := ⟨_, rfl⟩
      rw [hW] at hst
      rw [hW]
      have HS6 := Lib.hid hst
      clear hW hst HC6
      obtain ⟨a0, a1, a2, e0, e1, e2, _⟩ := HS6.out.1.cells
      obtain ⟨x0, x1, x2, x3, f0, f1, f2, f3, _⟩ := HS6.out.2.2.2.1.cells
      have hz := HS6.out.lt
      go_wp2_with fail
      clear a0 a1 a2 e0 e1 e2 x0 x1 x2 x3 f0 f1 f2 f3 hz
      refine (rnumber_any A0 cc xs s6 _ (HL.out _ HS6.out.2.2.2.2) i6 hk).mono ?_
      rintro e w7 ⟨he, hb⟩
      rw [HP7.out, HN4.out] at he
      subst he
      have HC7 := Lib.hid (HS6.out.call hb)
      obtain ⟨a0, a1, a2, e0, e1, e2, _⟩ := HC7.out.1.cells
      obtain ⟨x0, x1, x2, x3, f0, f1, f2, f3, _⟩ := HC7.out.2.2.2.1.cells
      have hz := HC7.out.lt
      clear hb
      have hst := (HC7.out.put (u := s7)).set 3 (.int .i64 n4) ⟨n1, n2, n3, n4⟩ rfl
      go_upto_region 10 with fail
      clear a0 a1 a2 e0 e1 e2 x0 x1 x2 x3 f0 f1 f2 f3 hz
      obtain ⟨W7, hW⟩ : ∃ W, (((w7.setCell ⟨w.heap.size, 0, none⟩ (.slice A0 xs.length cc)).setCell ⟨w.heap.size, 1, none⟩ (.int .i64 s7.1)).setCell ⟨w.heap.size, 2, none⟩ (.bool s7.2)).setCell ⟨w.heap.size + 1 + 1 + 1, 3, none⟩ (.int .i64 n4) = W := ⟨_, rfl⟩
      rw [hW] at hst
      rw [hW]
      have HS7 := Lib.hid hst
      clear hW hst HC7
      obtain ⟨a0, a1, a2, e0, e1, e2, _⟩ := HS7.out.1.cells
      obtain ⟨x0, x1, x2, x3, f0, f1, f2, f3, _⟩ := HS7.out.2.2.2.1.cells
      have hz := HS7.out.lt
      go_region_with (go_at_call 66; refine (rtake_any A0 cc xs s7 3 _ [59] rfl (by decide) _ (HL.out _ HS7.out.drew.2.2.2.2) i7 hk).mono ?_; rintro e wf ⟨he, hb⟩; rw [HP8.out] at he; subst he; have HF := Lib.hid (HS7.out.drew.call hb); obtain ⟨b0, b1, b2, g0, g1, g2, _⟩ := HF.out.1.cells; obtain ⟨y0, y1, y2, y3, h0, h1, h2, h3, _⟩ := HF.out.2.2.2.1.cells; obtain ⟨r0, r1, r2, q0, q1, q2, _⟩ := HF.out.2.1.cells; obtain ⟨t0, t1, t2, t3, v0, v1, v2, v3, _⟩ := HF.out.2.2.1.cells; have hzf := HF.out.lt; clear hb)
      all_goals
        go_wp2_with fail
        first
          | (refine bodyPost_ret (stg_res _ rfl ((((IsR7.put (u := s8) HF.out.2.1).setO (by omega) _).setO (by omega) _).setO (by omega) _ |>.setO (by omega) _) rfl (IsStg.put (y := ⟨n1, n2, n3, n4⟩) (((HF.out.2.2.1.setO (by omega) _).setO (by omega) _).setO (by omega) _))) rfl ⟨rfl, ?_⟩
             refine bel_set (bel_set (bel_set (bel_set (bel_set (bel_set (bel_set HF.out.2.2.2.2 ?_) ?_) ?_) ?_) ?_) ?_) ?_ <;> omega)
          | (refine bodyPost_ret (stg_res _ rfl (IsR7.put (u := s8) ((((HF.out.2.1.setO (by omega) _).setO (by omega) _).setO (by omega) _).setO (by omega) _)) rfl ((((IsStg.put (y := ⟨n1, n2, n3, n4⟩) HF.out.2.2.1).setO (by omega) _).setO (by omega) _).setO (by omega) _)) rfl ⟨rfl, ?_⟩
             refine bel_set (bel_set (bel_set (bel_set (bel_set (bel_set (bel_set HF.out.2.2.2.2 ?_) ?_) ?_) ?_) ?_) ?_) ?_ <;> omega)
    · have hb1 : (n1 == 0) = false := by rw [beq_eq_false_iff_ne]; exact h01
      clear h00 h01
      go_wp2_with fail
      clear a0 a1 a2 e0 e1 e2 x0 x1 x2 x3 f0 f1 f2 f3 hz
      refine (rtake_any A0 cc xs s3 1 _ atW rfl (by decide) _ (HL.out _ HS3.out.2.2.2.2) i3 hk).mono ?_
      rintro e w4 ⟨he, hb⟩
      rw [HP4.out] at he
      subst he
      have HC4 := Lib.hid (HS3.out.call hb)
      obtain ⟨a0, a1, a2, e0, e1, e2, _⟩ := HC4.out.1.cells
      obtain ⟨x0, x1, x2, x3, f0, f1, f2, f3, _⟩ := HC4.out.2.2.2.1.cells
      have hz := HC4.out.lt
      clear hb
      have hst := HC4.out.put (u := s4)
      go_upto_region 7 with fail
      clear a0 a1 a2 e0 e1 e2 x0 x1 x2 x3 f0 f1 f2 f3 hz
      obtain ⟨W4, hW⟩ : ∃ W, ((w4.setCell ⟨w.heap.size, 0, none⟩ (.slice A0 xs.length cc)).setCell ⟨w.heap.size, 1, none⟩ (.int .i64 s4.1)).setCell ⟨w.heap.size, 2, none⟩ (.bool s4.2) = W := ⟨_, rfl⟩
      rw [hW] at hst
      rw [hW]
      have HS4 := Lib.hid hst
      clear hW hst HC4
      obtain ⟨a0, a1, a2, e0, e1, e2, _⟩ := HS4.out.1.cells
      obtain ⟨x0, x1, x2, x3, f0, f1, f2, f3, _⟩ := HS4.out.2.2.2.1.cells
      have hz := HS4.out.lt
      go_wp2_with fail
      clear a0 a1 a2 e0 e1 e2 x0 x1 x2 x3 f0 f1 f2 f3 hz
      refine (rnumber_any A0 cc xs s4 _ (HL.out _ HS4.out.2.2.2.2) i4 hk).mono ?_
      rintro e w5 ⟨he, hb⟩
      rw [HP5.out, HN3.out] at he
      subst he
      have HC5 := Lib.hid (HS4.out.call hb)
      obtain ⟨a0, a1, a2, e0, e1, e2, _⟩ := HC5.out.1.cells
      obtain ⟨x0, x1, x2, x3, f0, f1, f2, f3, _⟩ := HC5.out.2.2.2.1.cells
      have hz := HC5.out.lt
      clear hb
      have hst := (HC5.out.put (u := s5)).set 2 (.int .i64 n3) ⟨n1, n2, n3, 0⟩ rfl
      go_upto_region 8 with fail
      clear a0 a1 a2 e0 e1 e2 x0 x1 x2 x3 f0 f1 f2 f3 hz
      obtain ⟨W5, hW⟩ : ∃ W, (((w5.setCell ⟨w.heap.size, 0, none⟩ (.slice A0 xs.length cc)).setCell ⟨w.heap.size, 1, none⟩ (.int .i64 s5.1)).setCell ⟨w.heap.size, 2, none⟩ (.bool s5.2)).setCell ⟨w.heap.size + 1 + 1 + 1, 2, none⟩ (.int .i64 n3) = W := ⟨_, rfl⟩
      rw [hW] at hst
      rw [hW]
      have HS5 := Lib.hid hst
      clear hW hst HC5
      obtain ⟨a0, a1, a2, e0, e1, e2, _⟩ := HS5.out.1.cells
      obtain ⟨x0, x1, x2, x3, f0, f1, f2, f3, _⟩ := HS5.out.2.2.2.1.cells
      have hz := HS5.out.lt
      go_wp2_with fail
      clear a0 a1 a2 e0 e1 e2 x0 x1 x2 x3 f0 f1 f2 f3 hz
      refine (rtake_any A0 cc xs s5 3 _ [45] rfl (by decide) _ (HL.out _ HS5.out.2.2.2.2) i5 hk).mono ?_
      rintro e w6 ⟨he, hb⟩
      rw [HP6.out] at he
      subst he
      have HC6 := Lib.hid (HS5.out.call hb)
      obtain ⟨a0, a1, a2, e0, e1, e2, _⟩ := HC6.out.1.cells
      obtain ⟨x0, x1, x2, x3, f0, f1, f2, f3, _⟩ := HC6.out.2.2.2.1.cells
      have hz := HC6.out.lt
      clear hb
      have hst := HC6.out.put (u := s6)
      go_upto_region 9 with fail
      clear a0 a1 a2 e0 e1 e2 x0 x1 x2 x3 f0 f1 f2 f3 hz
      obtain ⟨W6, hW⟩ : ∃ W, ((w6.setCell ⟨w.heap.size, 0, none⟩ (.slice A0 xs.length cc)).setCell ⟨w.heap.size, 1, none⟩ (.int .i64 s6.1)).setCell ⟨w.heap.size, 2, none⟩ (.bool s6.2) = W := ⟨_, rfl⟩
      rw [hW] at hst
      rw [hW]
      have HS6 := Lib.hid hst
      clear hW hst HC6
      obtain ⟨a0, a1, a2, e0, e1, e2, _⟩ := HS6.out.1.cells
      obtain ⟨x0, x1, x2, x3, f0, f1, f2, f3, _⟩ := HS6.out.2.2.2.1.cells
      have hz := HS6.out.lt
      go_wp2_with fail
      clear a0 a1 a2 e0 e1 e2 x0 x1 x2 x3 f0 f1 f2 f3 hz
      refine (rnumber_any A0 cc xs s6 _ (HL.out _ HS6.out.2.2.2.2) i6 hk).mono ?_
      rintro e w7 ⟨he, hb⟩
      rw [HP7.out, HN4.out] at he
      subst he
      have HC7 := Lib.hid (HS6.out.call hb)
      obtain ⟨a0, a1, a2, e0, e1, e2, _⟩ := HC7.out.1.cells
      obtain ⟨x0, x1, x2, x3, f0, f1, f2, f3, _⟩ := HC7.out.2.2.2.1.cells
      have hz := HC7.out.lt
      clear hb
      have hst := (HC7.out.put (u := s7)).set 3 (.int .i64 n4) ⟨n1, n2, n3, n4⟩ rfl
      go_upto_region 10 with fail
      clear a0 a1 a2 e0 e1 e2 x0 x1 x2 x3 f0 f1 f2 f3 hz
      obtain ⟨W7, hW⟩ : ∃ W, (((w7.setCell ⟨w.heap.size, 0, none⟩ (.slice A0 xs.length cc)).setCell ⟨w.heap.size, 1, none⟩ (.int .i64 s7.1)).setCell ⟨w.heap.size, 2, none⟩ (.bool s7.2)).setCell ⟨w.heap.size + 1 + 1 + 1, 3, none⟩ (.int .i64 n4) = W := ⟨_, rfl⟩
      rw [hW] at hst
      rw [hW]
      have HS7 := Lib.hid hst
      clear hW hst HC7
      obtain ⟨a0, a1, a2, e0, e1, e2, _⟩ := HS7.out.1.cells
      obtain ⟨x0, x1, x2, x3, f0, f1, f2, f3, _⟩ := HS7.out.2.2.2.1.cells
      have hz := HS7.out.lt
      go_region_with (go_at_call 66; refine (rtake_any A0 cc xs s7 3 _ [59] rfl (by decide) _ (HL.out _ HS7.out.drew.2.2.2.2) i7 hk).mono ?_; rintro e wf ⟨he, hb⟩; rw [HP8.out] at he; subst he; have HF := Lib.hid (HS7.out.drew.call hb); obtain ⟨b0, b1, b2, g0, g1, g2, _⟩ := HF.out.1.cells; obtain ⟨y0, y1, y2, y3, h0, h1, h2, h3, _⟩ := HF.out.2.2.2.1.cells; obtain ⟨r0, r1, r2, q0, q1, q2, _⟩ := HF.out.2.1.cells; obtain ⟨t0, t1, t2, t3, v0, v1, v2, v3, _⟩ := HF.out.2.2.1.cells; have hzf := HF.out.lt; clear hb)
      all_goals
        go_wp2_with fail
        first
          | (refine bodyPost_ret (stg_res _ rfl ((((IsR7.put (u := s8) HF.out.2.1).setO (by omega) _).setO (by omega) _).setO (by omega) _ |>.setO (by omega) _) rfl (IsStg.put (y := ⟨n1, n2, n3, n4⟩) (((HF.out.2.2.1.setO (by omega) _).setO (by omega) _).setO (by omega) _))) rfl ⟨rfl, ?_⟩
             refine bel_set (bel_set (bel_set (bel_set (bel_set (bel_set (bel_set HF.out.2.2.2.2 ?_) ?_) ?_) ?_) ?_) ?_) ?_ <;> omega)
          | (refine bodyPost_ret (stg_res _ rfl (IsR7.put (u := s8) ((((HF.out.2.1.setO (by omega) _).setO (by omega) _).setO (by omega) _).setO (by omega) _)) rfl ((((IsStg.put (y := ⟨n1, n2, n3, n4⟩) HF.out.2.2.1).setO (by omega) _).setO (by omega) _).setO (by omega) _)) rfl ⟨rfl, ?_⟩
             refine bel_set (bel_set (bel_set (bel_set (bel_set (bel_set (bel_set HF.out.2.2.2.2 ?_) ?_) ?_) ?_) ?_) ?_) ?_ <;> omega)
end Go.Proofs.YtabdlldkkcjppaaDoor

namespace Saw
theorem scS_zero {xs : List Lx} {s : Nat × Bool} (h : (sc2 xs s).2 = true) : scS xs s = (Sc.zero, sc2 xs s) := by
  obtain ⟨k2, hk2⟩ : ∃ k2, sc2 xs s = (k2, true) := ⟨(sc2 xs s).1, by rw [← h]⟩
  have h1 : (lexS xs (sc1 xs s) (1, [])).text = [] := by
    have h2 : okS xs (sc1 xs s) (1, []) = false := by
      cases ho : okS xs (sc1 xs s) (1, []) with
      | false => rfl
      | true => rw [sc2, nextS, if_pos ho] at hk2; cases hk2
    rw [lexS, if_neg (by rw [h2]; decide)]; rfl
  have h3 : sc3 xs s = (k2, true) := by rw [sc3, nextS_failed (by rw [hk2]), hk2]
  have h4 : sc4 xs s = (k2, true) := by rw [sc4, nextS_failed (by rw [h3]), h3]
  have h5 : sc5 xs s = (k2, true) := by rw [sc5, nextS_failed (by rw [h4]), h4]
  unfold scS
  rw [h1, h3, Go.Proofs.YtabdlldkkcjppaaDoor.lexS_bad, h5, stgsS_stop (.inl rfl), hk2]
  rfl
end Saw
namespace Go.Proofs.YtabdlldkkcjppaaDoor
open Go.RowKit Saw

/-- How memory stands while a schedule is read: the reader, both results, the schedule. -/
def RhSt (w W : World) (lv : Value) (s : Nat × Bool) (x : Sc) (v : Value) : Prop :=
  IsR7 W w.heap.size lv s ∧ IsR7 W (w.heap.size + 1) (.slice none 0 0) (0, false) ∧ IsSc W (w.heap.size + 1 + 1) Sc.zero (.slice none 0 0) ∧ IsSc W (w.heap.size + 1 + 1 + 1) x v ∧ Below w.heap.size w W
section
variable {w W W' : World} {lv v v' : Value} {s u : Nat × Bool} {x y : Sc}
theorem RhSt.lt (h : RhSt w W lv s x v) : w.heap.size + 1 + 1 + 1 < W.heap.size := h.2.2.2.1.cells.2.2.2.2.2.2
theorem RhSt.call (h : RhSt w W lv s x v) (hb : Below W.heap.size W W') : RhSt w W' lv s x v := by
  have hl := h.lt
  exact ⟨h.1.below hb (by omega), h.2.1.below hb (by omega), h.2.2.1.below hb (by omega), h.2.2.2.1.below hb (by omega), bel_call h.2.2.2.2 hb⟩
theorem RhSt.alloc (h : RhSt w W lv s x v) (ob : Obj) : RhSt w (W.alloc ob) lv s x v := h.call ((Below.refl _ _).alloc (Nat.le_refl _) ob)
theorem RhSt.drew (h : RhSt w W lv s x v) : RhSt w W.drew lv s x v := ⟨h.1, h.2.1, h.2.2.1, h.2.2.2.1, h.2.2.2.2.drew⟩
theorem RhSt.put (h : RhSt w W lv s x v) : RhSt w (((W.setCell ⟨w.heap.size, 0, none⟩ lv).setCell ⟨w.heap.size, 1, none⟩ (.int .i64 u.1)).setCell ⟨w.heap.size, 2, none⟩ (.bool u.2)) lv u x v :=
  ⟨h.1.put, ((h.2.1.setO (by omega) _).setO (by omega) _).setO (by omega) _, ((h.2.2.1.setO (by omega) _).setO (by omega) _).setO (by omega) _, ((h.2.2.2.1.setO (by omega) _).setO (by omega) _).setO (by omega) _, bel_set (bel_set (bel_set h.2.2.2.2 (by omega)) (by omega)) (by omega)⟩
theorem RhSt.bad (h : RhSt w W lv s x v) : RhSt w (W.setCell ⟨w.heap.size, 2, none⟩ (.bool true)) lv (s.1, true) x v :=
  ⟨h.1.bad true, h.2.1.setO (by omega) _, h.2.2.1.setO (by omega) _, h.2.2.2.1.setO (by omega) _, bel_set h.2.2.2.2 (by omega)⟩
theorem RhSt.at (h : RhSt w W lv s x v) (j : Nat) : RhSt w (W.setCell ⟨w.heap.size, 1, none⟩ (.int .i64 j)) lv (j, s.2) x v :=
  ⟨h.1.at j, h.2.1.setO (by omega) _, h.2.2.1.setO (by omega) _, h.2.2.2.1.setO (by omega) _, bel_set h.2.2.2.2 (by omega)⟩
theorem IsSc.set {w : World} {g : Nat} (h : IsSc w g x v) (j : Nat) (a : Value) (y : Sc) (u : Value) (hy : (#[.string (str x.name), .int .i64 x.ramp, v] : Array Value).setIfInBounds j a = #[.string (str y.name), .int .i64 y.ramp, u]) : IsSc (w.setCell ⟨g, j, none⟩ a) g y u := by
  unfold IsSc
  rw [← hy]
  exact set3_heap' h a j
theorem RhSt.set (h : RhSt w W lv s x v) (j : Nat) (a : Value) (y : Sc) (u : Value) (hy : (#[.string (str x.name), .int .i64 x.ramp, v] : Array Value).setIfInBounds j a = #[.string (str y.name), .int .i64 y.ramp, u]) : RhSt w (W.setCell ⟨w.heap.size + 1 + 1 + 1, j, none⟩ a) lv s y u :=
  ⟨h.1.setO (by omega) _, h.2.1.setO (by omega) _, h.2.2.1.setO (by omega) _, IsSc.set h.2.2.2.1 j a y u hy, bel_set h.2.2.2.2 (by omega)⟩
theorem RhSt.grow (h : RhSt w W lv s x v) {row : Option Nat} (hg : W.grownBy W' row) (hr : ∀ g, row = some g → w.heap.size + 1 + 1 + 1 + 1 ≤ g) : RhSt w W' lv s x v := by
  have hl := h.lt
  obtain ⟨h0, h1, h2, h3, h4⟩ := h
  have hk : ∀ j, j < w.heap.size + 1 + 1 + 1 + 1 → some j ≠ row := fun j hj e => by have := hr j e.symm; omega
  exact ⟨(hg.block _ (by omega) (hk _ (by omega))).trans h0, (hg.block _ (by omega) (hk _ (by omega))).trans h1, (hg.block _ (by omega) (hk _ (by omega))).trans h2, (hg.block _ (by omega) (hk _ (by omega))).trans h3, h4.grown hg h4.size (fun j hj => by have := hr j hj; omega)⟩
end
/-- The four blocks are new. -/
theorem fourh_new (w : World) (lv : Value) (s : Nat × Bool) : RhSt w ((((w.alloc (.cells #[lv, .int .i64 s.1, .bool s.2] 80)).alloc (.cells #[.slice none 0 0, .int .i64 0, .bool false] 80)).alloc (.cells #[.string ⟨#[]⟩, .int .i64 0, .slice none 0 0] 24)).alloc (.cells #[.string ⟨#[]⟩, .int .i64 0, .slice none 0 0] 24)) lv s ⟨[], 0, []⟩ (.slice none 0 0) := by
  obtain ⟨w1, h1⟩ : ∃ w1, w.alloc (.cells #[lv, .int .i64 s.1, .bool s.2] 80) = w1 := ⟨_, rfl⟩
  obtain ⟨w2, h2⟩ : ∃ w2, w1.alloc (.cells #[.slice none 0 0, .int .i64 0, .bool false] 80) = w2 := ⟨_, rfl⟩
  obtain ⟨w3, h3⟩ : ∃ w3, w2.alloc (.cells #[.string ⟨#[]⟩, .int .i64 0, .slice none 0 0] 24) = w3 := ⟨_, rfl⟩
  obtain ⟨w4, h4⟩ : ∃ w4, w3.alloc (.cells #[.string ⟨#[]⟩, .int .i64 0, .slice none 0 0] 24) = w4 := ⟨_, rfl⟩
  have z1 : w1.heap.size = w.heap.size + 1 := by rw [← h1, World.size_alloc]
  have z2 : w2.heap.size = w.heap.size + 1 + 1 := by rw [← h2, World.size_alloc, z1]
  have z3 : w3.heap.size = w.heap.size + 1 + 1 + 1 := by rw [← h3, World.size_alloc, z2]
  have b1 := heap_alloc_last w (.cells #[lv, .int .i64 s.1, .bool s.2] 80)
  have b2 := heap_alloc_last w1 (.cells #[.slice none 0 0, .int .i64 0, .bool false] 80)
  have b3 := heap_alloc_last w2 (.cells #[.string ⟨#[]⟩, .int .i64 0, .slice none 0 0] 24)
  have b4 := heap_alloc_last w3 (.cells #[.string ⟨#[]⟩, .int .i64 0, .slice none 0 0] 24)
  rw [h1] at b1
  rw [h2, z1] at b2
  rw [h3, z2] at b3
  rw [h4, z3] at b4
  have k : Below w.heap.size w w4 := by rw [← h4, ← h3, ← h2, ← h1]; exact bel_alloc (bel_alloc (bel_alloc (bel_alloc (Below.refl _ _))))
  rw [h1, h2, h3, h4]
  refine ⟨?_, ?_, ?_, b4, k⟩
  · rw [← h4, ← h3, ← h2]; exact hpA (hpA (hpA b1 _) _) _
  · rw [← h4, ← h3]; exact hpA (hpA b2 _) _
  · rw [← h4]; exact hpA b3 _
theorem sc_res {W : World} {g g2 : Nat} {lv v : Value} {s : Nat × Bool} {x : Sc} (tmps : Array Value) (hp : tmps.getD 2 undef = .pointer (some ⟨g, 0, none⟩)) (hg : IsR7 W g lv s) (hq : tmps.getD 3 undef = .pointer (some ⟨g2, 0, none⟩)) (hx : IsSc W g2 x v) :
    (results Tryd.f47 tmps).run Tryd.prog W = .ok (.tuple #[.agg #[lv, .int .i64 s.1, .bool s.2], .agg #[.string (str x.name), .int .i64 x.ramp, v]]) W :=
  results_cells Tryd.results47 tmps W g g2 [lv, .int .i64 s.1, .bool s.2] [.string (str x.name), .int .i64 x.ramp, v] hp (rangeAt_block hg) Tryd.underlying80 rfl r7_info hq (rangeAt_block hx) Tryd.underlying24 rfl sc_info
def R7HPost (lv : Value) (R : Sc × (Nat × Bool)) (w : World) (e : Ending) (w' : World) : Prop :=
  ∃ (A : Option Addr) (c : Nat), e = .returned (.tuple #[.agg #[lv, .int .i64 R.2.1, .bool R.2.2], .agg #[.string (str R.1.name), .int .i64 R.1.ramp, .slice A R.1.stages.length c]]) ∧ OwnsSt w' w.heap.size (.slice A R.1.stages.length c) R.1.stages ∧ Below w.heap.size w w'
theorem r7_drew {W : World} {g : Nat} {lv : Value} {s : Nat × Bool} (h : IsR7 W g lv s) : IsR7 W.drew g lv s := h
theorem issc_drew {W : World} {g : Nat} {x : Sc} {v : Value} (h : IsSc W g x v) : IsSc W.drew g x v := h
theorem ownst_drew {W : World} {b : Nat} {v : Value} {l : List Stg} (h : OwnsSt W b v l) : OwnsSt W.drew b v l := own_keep h (fun _ _ => rfl)
/-- Both results are stored, in either order. -/
theorem rh_finA0 {w W : World} {lv v : Value} {s : Nat × Bool} {x : Sc} (h : RhSt w W lv s x v) {l : List Stg} (ho : OwnsSt W (w.heap.size + 1 + 1 + 1 + 1) v l) {W' : World}
    (hW : W' = (((((W.setCell ⟨w.heap.size + 1, 0, none⟩ lv).setCell ⟨w.heap.size + 1, 1, none⟩ (.int .i64 s.1)).setCell ⟨w.heap.size + 1, 2, none⟩ (.bool s.2)).setCell ⟨w.heap.size + 1 + 1, 0, none⟩ (.string (str x.name))).setCell ⟨w.heap.size + 1 + 1, 1, none⟩ (.int .i64 x.ramp)).setCell ⟨w.heap.size + 1 + 1, 2, none⟩ v) :
    IsR7 W' (w.heap.size + 1) lv s ∧ IsSc W' (w.heap.size + 1 + 1) x v ∧ OwnsSt W' w.heap.size v l ∧ Below w.heap.size w W' := by
  subst hW
  refine ⟨(((h.2.1.put).setO (by omega) _).setO (by omega) _).setO (by omega) _, IsSc.put (((h.2.2.1.setO (by omega) _).setO (by omega) _).setO (by omega) _) x v, ?_, bel_set (bel_set (bel_set (bel_set (bel_set (bel_set h.2.2.2.2 ?_) ?_) ?_) ?_) ?_) ?_⟩
  · refine own_keep (own_deeper ho (by omega)) (fun g hg => ?_)
    have := (own_lt ho g hg).1
    refine (Below.heap_setCell _ _ _ _ ?_).trans ((Below.heap_setCell _ _ _ _ ?_).trans ((Below.heap_setCell _ _ _ _ ?_).trans ((Below.heap_setCell _ _ _ _ ?_).trans ((Below.heap_setCell _ _ _ _ ?_).trans (Below.heap_setCell _ _ _ _ ?_)))))
    all_goals (first | (show g ≠ w.heap.size + 1 + 1; omega) | (show g ≠ w.heap.size + 1; omega))
  all_goals omega
theorem rh_finB0 {w W : World} {lv v : Value} {s : Nat × Bool} {x : Sc} (h : RhSt w W lv s x v) {l : List Stg} (ho : OwnsSt W (w.heap.size + 1 + 1 + 1 + 1) v l) {W' : World}
    (hW : W' = (((((W.setCell ⟨w.heap.size + 1 + 1, 0, none⟩ (.string (str x.name))).setCell ⟨w.heap.size + 1 + 1, 1, none⟩ (.int .i64 x.ramp)).setCell ⟨w.heap.size + 1 + 1, 2, none⟩ v).setCell ⟨w.heap.size + 1, 0, none⟩ lv).setCell ⟨w.heap.size + 1, 1, none⟩ (.int .i64 s.1)).setCell ⟨w.heap.size + 1, 2, none⟩ (.bool s.2)) :
    IsR7 W' (w.heap.size + 1) lv s ∧ IsSc W' (w.heap.size + 1 + 1) x v ∧ OwnsSt W' w.heap.size v l ∧ Below w.heap.size w W' := by
  subst hW
  refine ⟨IsR7.put (((h.2.1.setO (by omega) _).setO (by omega) _).setO (by omega) _), (((IsSc.put h.2.2.1 x v).setO (by omega) _).setO (by omega) _).setO (by omega) _, ?_, bel_set (bel_set (bel_set (bel_set (bel_set (bel_set h.2.2.2.2 ?_) ?_) ?_) ?_) ?_) ?_⟩
  · refine own_keep (own_deeper ho (by omega)) (fun g hg => ?_)
    have := (own_lt ho g hg).1
    refine (Below.heap_setCell _ _ _ _ ?_).trans ((Below.heap_setCell _ _ _ _ ?_).trans ((Below.heap_setCell _ _ _ _ ?_).trans ((Below.heap_setCell _ _ _ _ ?_).trans ((Below.heap_setCell _ _ _ _ ?_).trans (Below.heap_setCell _ _ _ _ ?_)))))
    all_goals (first | (show g ≠ w.heap.size + 1 + 1; omega) | (show g ≠ w.heap.size + 1; omega))
  all_goals omega

theorem rh_finA {w W : World} {lv v : Value} {s : Nat × Bool} {x : Sc} (h : RhSt w W lv s x v) {l : List Stg} (ho : OwnsSt W (w.heap.size + 1 + 1 + 1 + 1) v l) {W' : World}
    (hW : W' = ((((((W.setCell ⟨w.heap.size + 1, 0, none⟩ lv).setCell ⟨w.heap.size + 1, 1, none⟩ (.int .i64 s.1)).setCell ⟨w.heap.size + 1, 2, none⟩ (.bool s.2)).setCell ⟨w.heap.size + 1 + 1, 0, none⟩ (.string (str x.name))).setCell ⟨w.heap.size + 1 + 1, 1, none⟩ (.int .i64 x.ramp)).setCell ⟨w.heap.size + 1 + 1, 2, none⟩ v).drew) :
    IsR7 W' (w.heap.size + 1) lv s ∧ IsSc W' (w.heap.size + 1 + 1) x v ∧ OwnsSt W' w.heap.size v l ∧ Below w.heap.size w W' := by
  subst hW
  obtain ⟨q1, q2, q3, q4⟩ := rh_finA0 h ho rfl
  exact ⟨r7_drew q1, issc_drew q2, ownst_drew q3, q4.drew⟩
theorem rh_finB {w W : World} {lv v : Value} {s : Nat × Bool} {x : Sc} (h : RhSt w W lv s x v) {l : List Stg} (ho : OwnsSt W (w.heap.size + 1 + 1 + 1 + 1) v l) {W' : World}
    (hW : W' = ((((((W.setCell ⟨w.heap.size + 1 + 1, 0, none⟩ (.string (str x.name))).setCell ⟨w.heap.size + 1 + 1, 1, none⟩ (.int .i64 x.ramp)).setCell ⟨w.heap.size + 1 + 1, 2, none⟩ v).setCell ⟨w.heap.size + 1, 0, none⟩ lv).setCell ⟨w.heap.size + 1, 1, none⟩ (.int .i64 s.1)).setCell ⟨w.heap.size + 1, 2, none⟩ (.bool s.2)).drew) :
    IsR7 W' (w.heap.size + 1) lv s ∧ IsSc W' (w.heap.size + 1 + 1) x v ∧ OwnsSt W' w.heap.size v l ∧ Below w.heap.size w W' := by
  subst hW
  obtain ⟨q1, q2, q3, q4⟩ := rh_finB0 h ho rfl
  exact ⟨r7_drew q1, issc_drew q2, ownst_drew q3, q4.drew⟩
/-- What holds ahead of a round of the loop. -/
def RhRel (w : World) (lv : Value) (xs : List Lx) (nm : List UInt8) (r : Int) (RR : List Stg × (Nat × Bool)) (wr : World) : Prop :=
  ∃ (s : Nat × Bool) (l : List Stg) (A : Option Addr) (c : Nat), s.1 < xs.length ∧ l.length ≤ s.1 + 1 ∧ (s.2 = false → l.length ≤ s.1) ∧ RhSt w wr lv s ⟨nm, r, l⟩ (.slice A l.length c) ∧ OwnsSt wr (w.heap.size + 1 + 1 + 1 + 1) (.slice A l.length c) l ∧ ∃ n, (s.2 = true ∨ xs.length - s.1 ≤ n) ∧ stgsS xs n s l = RR
def rhLeft (xs : List Lx) (g : Nat) (w : World) : Nat := match w.cell? ⟨g, 2, none⟩, w.cell? ⟨g, 1, none⟩ with | some (.bool false), some (.int _ n) => xs.length - n.toNat + 1 | _, _ => 0
theorem rhLeft_of {xs : List Lx} {w : World} {g : Nat} {s : Nat × Bool} {lv : Value} (h : IsR7 w g lv s) : rhLeft xs g w = if s.2 then 0 else xs.length - s.1 + 1 := by
  obtain ⟨_, h1, h2, _⟩ := h.cells
  unfold rhLeft
  simp only [h1, h2]
  obtain ⟨k, f⟩ := s
  cases f <;> simp

set_option maxRecDepth 100000 in
set_option maxHeartbeats 2000000 in
theorem rschedule_any (A0 : Option Addr) (cc : Nat) (xs : List Lx) (s : Nat × Bool) (w : World) (hl : Rd w w.heap.size 4 (.slice A0 xs.length cc) xs.length (lxsCells xs)) (hkx : s.1 < xs.length) (hk : xs.length < 1000000) (hend : LxEnds xs) (hnn : ∀ x ∈ xs, 0 ≤ x.num) :
    Calls Tryd.prog 47 #[.agg #[.slice A0 xs.length cc, .int .i64 s.1, .bool s.2]] w (R7HPost (.slice A0 xs.length cc) (scS xs s) w) := by
  obtain ⟨i1, i2, i3, i4, i5⟩ := sc_in hend hkx
  have HL := Lib.hid (fun (W : World) (hb : Below w.heap.size w W) => (hl.next hb))
  have HEND := Lib.hid hend
  have HNN := Lib.hid hnn
  obtain ⟨R, hR⟩ : ∃ R, scS xs s = R := ⟨_, rfl⟩
  have HR := Lib.hid hR
  rw [hR]
  obtain ⟨s1, hs1⟩ : ∃ s', sc1 xs s = s' := ⟨_, rfl⟩
  have HP1 := Lib.hid (show nextS xs s (1, scheduleW) = s1 from hs1)
  have HQ1 := Lib.hid hs1
  rw [hs1] at i1
  obtain ⟨k1, f1⟩ := s1
  simp only at i1
  have HS0 := Lib.hid (fourh_new w (.slice A0 xs.length cc) s)
  obtain ⟨y1, hy1⟩ : ∃ y, lxAt xs k1 = y := ⟨_, rfl⟩
  have HY1 := Lib.hid hy1
  obtain ⟨b, off, rfl, hbs, hml, d0, d1, _, _⟩ := lx_reads hl i1 hy1
  have HLX := Lib.hid (show ∀ (W : World), Below w.heap.size w W → W.cell? ⟨b, off + k1 * 4, none⟩ = some (.int .i64 y1.kind) ∧ W.cell? ⟨b, off + k1 * 4 + 1, none⟩ = some (.string (str y1.text)) from fun W hb => ⟨(hb.cell (p := ⟨b, off + k1 * 4, none⟩) hbs).trans d0, (hb.cell (p := ⟨b, off + k1 * 4 + 1, none⟩) hbs).trans d1⟩)
  clear hl hend hnn hR hs1 hy1 d0 d1
  go_enter Tryd.func47, Tryd.ntmps47
  go_wp2_with fail
  refine (rtake_any (some ⟨b, off, none⟩) cc xs s 1 _ scheduleW rfl (by decide) _ (HL.out _ HS0.out.2.2.2.2) hkx hk).mono ?_
  rintro e w1 ⟨he, hb⟩
  rw [HP1.out] at he
  subst he
  have HC1 := Lib.hid (HS0.out.call hb)
  obtain ⟨a0, a1, a2, e0, e1, e2, _⟩ := HC1.out.1.cells
  obtain ⟨x0, x1, x2, z0, z1, z2, _⟩ := HC1.out.2.2.2.1.cells
  have hz := HC1.out.lt
  clear hb
  have hst := HC1.out.put (u := (k1, f1))
  go_upto_region 3 with fail
  clear a0 a1 a2 e0 e1 e2 x0 x1 x2 z0 z1 z2 hz
  obtain ⟨W1, hW⟩ : ∃ W, ((w1.setCell ⟨w.heap.size, 0, none⟩ (.slice (some ⟨b, off, none⟩) xs.length cc)).setCell ⟨w.heap.size, 1, none⟩ (.int .i64 (k1, f1).1)).setCell ⟨w.heap.size, 2, none⟩ (.bool (k1, f1).2) = W := ⟨_, rfl⟩
  rw [hW] at hst
  rw [hW]
  have HS1 := Lib.hid hst
  clear hW hst HC1
  obtain ⟨a0, a1, a2, e0, e1, e2, _⟩ := HS1.out.1.cells
  obtain ⟨x0, x1, x2, z0, z1, z2, _⟩ := HS1.out.2.2.2.1.cells
  have hz := HS1.out.lt
  cases f1 with
  | true =>
    have hz0 := scS_zero (xs := xs) (s := s) (by rw [sc2, HQ1.out, nextS_failed rfl])
    rw [sc2, HQ1.out, nextS_failed rfl, HR.out] at hz0
    subst hz0
    have hst := HS1.out.bad
    go_upto_region 5 with fail
    clear a0 a1 a2 e0 e1 e2 x0 x1 x2 z0 z1 z2 hz
    obtain ⟨W2, hW⟩ : ∃ W, W1.setCell ⟨w.heap.size, 2, none⟩ (.bool true) = W := ⟨_, rfl⟩
    rw [hW] at hst
    rw [hW]
    have HS2 := Lib.hid hst
    clear hW hst
    obtain ⟨a0, a1, a2, e0, e1, e2, _⟩ := HS2.out.1.cells
    obtain ⟨x0, x1, x2, z0, z1, z2, _⟩ := HS2.out.2.2.2.1.cells
    have hz := HS2.out.lt
    obtain ⟨r0, r1, r2, q0, q1, q2, _⟩ := HS2.out.2.1.cells
    obtain ⟨t0, t1, t2, v0, v1, v2, _⟩ := HS2.out.2.2.1.cells
    go_region
    all_goals
      go_wp2_with fail
      first
        | (obtain ⟨q1, q2, q3, q4⟩ := rh_finA HS2.out (show OwnsSt _ (w.heap.size + 1 + 1 + 1 + 1) (.slice none 0 0) [] from World.ownsRow_nil _ _ _ _) rfl
           (with_reducible refine bodyPost_ret (sc_res _ ?_ q1 ?_ q2) ?_ ?_)
           · rfl
           · rfl
           · rfl
           · exact ⟨_, _, rfl, q3, q4⟩)
        | (obtain ⟨q1, q2, q3, q4⟩ := rh_finB HS2.out (show OwnsSt _ (w.heap.size + 1 + 1 + 1 + 1) (.slice none 0 0) [] from World.ownsRow_nil _ _ _ _) rfl
           (with_reducible refine bodyPost_ret (sc_res _ ?_ q1 ?_ q2) ?_ ?_)
           · rfl
           · rfl
           · rfl
           · exact ⟨_, _, rfl, q3, q4⟩)
  | false =>
    obtain ⟨g0, g1⟩ := HLX.out _ HS1.out.2.2.2.2
    by_cases hk1 : y1.kind = 1
    · have hkb : (y1.kind != 1) = false := by rw [hk1]; rfl
      have hk2 : k1 + 1 < xs.length := lxEnds_next HEND.out i1 (by rw [HY1.out, hk1]; decide)
      have hs2 : sc2 xs s = (k1 + 1, false) ∧ (lexS xs (sc1 xs s) (1, [])).text = y1.text := by
        rw [sc2, HQ1.out, (nextK_t (by rw [HY1.out]; exact hk1)).1, (nextK_t (by rw [HY1.out]; exact hk1)).2, HY1.out]
        exact ⟨rfl, rfl⟩
      obtain ⟨s3, hs3⟩ : ∃ s', sc3 xs s = s' := ⟨_, rfl⟩
      obtain ⟨s4, hs4⟩ : ∃ s', sc4 xs s = s' := ⟨_, rfl⟩
      obtain ⟨s5, hs5⟩ : ∃ s', sc5 xs s = s' := ⟨_, rfl⟩
      obtain ⟨n2, hn2⟩ : ∃ n, (lexS xs s3 (2, [])).num = n := ⟨_, rfl⟩
      obtain ⟨RR, hRR⟩ : ∃ RR, stgsS xs xs.length s5 [] = RR := ⟨_, rfl⟩
      rw [hs3] at i3
      rw [hs4] at i4
      rw [hs5] at i5
      have hRe : R = (⟨y1.text, n2, RR.1⟩, RR.2) := by rw [← HR.out, scS, hs3, hs5, hs2.2, hn2, hRR]
      subst hRe
      have HP3 := Lib.hid (show nextS xs (k1 + 1, false) (1, rampW) = s3 by rw [← hs3, sc3, hs2.1])
      have HP4 := Lib.hid (show nextS xs s3 (2, []) = s4 by rw [← hs4, sc4, hs3])
      have HP5 := Lib.hid (show nextS xs s4 (3, [58]) = s5 by rw [← hs5, sc5, hs4])
      have HN2 := Lib.hid hn2
      have HRR := Lib.hid hRR
      clear hs2 hs3 hs4 hs5 hn2 hRR HR hk1
      have hst := (HS1.out.set 0 (.string (str y1.text)) ⟨y1.text, 0, []⟩ (.slice none 0 0) rfl).at (k1 + 1)
      go_upto_region 8 with fail
      clear a0 a1 a2 e0 e1 e2 x0 x1 x2 z0 z1 z2 hz
      obtain ⟨W2, hW⟩ : ∃ W, (W1.setCell ⟨w.heap.size + 1 + 1 + 1, 0, none⟩ (.string (str y1.text))).setCell ⟨w.heap.size, 1, none⟩ (.int .i64 ((k1 + 1 : Nat) : Int)) = W := ⟨_, rfl⟩
      rw [hW] at hst
      have hW' : (W1.setCell ⟨w.heap.size + 1 + 1 + 1, 0, none⟩ (.string (str y1.text))).setCell ⟨w.heap.size, 1, none⟩ (.int .i64 ((k1 : Int) + 1)) = W2 := hW
      rw [hW']
      have HS2 := Lib.hid hst
      clear hW hW' hst g0 g1
      obtain ⟨a0, a1, a2, e0, e1, e2, _⟩ := HS2.out.1.cells
      obtain ⟨x0, x1, x2, z0, z1, z2, _⟩ := HS2.out.2.2.2.1.cells
      have hz := HS2.out.lt
      go_wp2_with fail
      clear a0 a1 a2 e0 e1 e2 x0 x1 x2 z0 z1 z2 hz
      refine (rtake_any (some ⟨b, off, none⟩) cc xs (k1 + 1, false) 1 _ rampW rfl (by decide) _ (HL.out _ HS2.out.2.2.2.2) hk2 hk).mono ?_
      rintro e w3 ⟨he, hb⟩
      rw [HP3.out] at he
      subst he
      have HC3 := Lib.hid (HS2.out.call hb)
      obtain ⟨a0, a1, a2, e0, e1, e2, _⟩ := HC3.out.1.cells
      obtain ⟨x0, x1, x2, z0, z1, z2, _⟩ := HC3.out.2.2.2.1.cells
      have hz := HC3.out.lt
      clear hb
      have hst := HC3.out.put (u := s3)
      go_upto_region 9 with fail
      clear a0 a1 a2 e0 e1 e2 x0 x1 x2 z0 z1 z2 hz
      obtain ⟨W3, hW⟩ : ∃ W, ((w3.setCell ⟨w.heap.size, 0, none⟩ (.slice (some ⟨b, off, none⟩) xs.length cc)).setCell ⟨w.heap.size, 1, none⟩ (.int .i64 s3.1)).setCell ⟨w.heap.size, 2, none⟩ (.bool s3.2) = W := ⟨_, rfl⟩
      rw [hW] at hst
      rw [hW]
      have HS3 := Lib.hid hst
      clear hW hst HC3
      obtain ⟨a0, a1, a2, e0, e1, e2, _⟩ := HS3.out.1.cells
      obtain ⟨x0, x1, x2, z0, z1, z2, _⟩ := HS3.out.2.2.2.1.cells
      have hz := HS3.out.lt
      go_wp2_with fail
      clear a0 a1 a2 e0 e1 e2 x0 x1 x2 z0 z1 z2 hz
      refine (rnumber_any (some ⟨b, off, none⟩) cc xs s3 _ (HL.out _ HS3.out.2.2.2.2) i3 hk).mono ?_
      rintro e w4 ⟨he, hb⟩
      rw [HP4.out, HN2.out] at he
      subst he
      have HC4 := Lib.hid (HS3.out.call hb)
      obtain ⟨a0, a1, a2, e0, e1, e2, _⟩ := HC4.out.1.cells
      obtain ⟨x0, x1, x2, z0, z1, z2, _⟩ := HC4.out.2.2.2.1.cells
      have hz := HC4.out.lt
      clear hb
      have hst := (HC4.out.put (u := s4)).set 1 (.int .i64 n2) ⟨y1.text, n2, []⟩ (.slice none 0 0) rfl
      go_upto_region 10 with fail
      clear a0 a1 a2 e0 e1 e2 x0 x1 x2 z0 z1 z2 hz
      obtain ⟨W4, hW⟩ : ∃ W, (((w4.setCell ⟨w.heap.size, 0, none⟩ (.slice (some ⟨b, off, none⟩) xs.length cc)).setCell ⟨w.heap.size, 1, none⟩ (.int .i64 s4.1)).setCell ⟨w.heap.size, 2, none⟩ (.bool s4.2)).setCell ⟨w.heap.size + 1 + 1 + 1, 1, none⟩ (.int .i64 n2) = W := ⟨_, rfl⟩
      rw [hW] at hst
      rw [hW]
      have HS4 := Lib.hid hst
      clear hW hst HC4
      obtain ⟨a0, a1, a2, e0, e1, e2, _⟩ := HS4.out.1.cells
      obtain ⟨x0, x1, x2, z0, z1, z2, _⟩ := HS4.out.2.2.2.1.cells
      have hz := HS4.out.lt
      go_wp2_with fail
      clear a0 a1 a2 e0 e1 e2 x0 x1 x2 z0 z1 z2 hz
      refine (rtake_any (some ⟨b, off, none⟩) cc xs s4 3 _ [58] rfl (by decide) _ (HL.out _ HS4.out.2.2.2.2) i4 hk).mono ?_
      rintro e w5 ⟨he, hb⟩
      rw [HP5.out] at he
      subst he
      have HC5 := Lib.hid (HS4.out.call hb)
      obtain ⟨a0, a1, a2, e0, e1, e2, _⟩ := HC5.out.1.cells
      obtain ⟨x0, x1, x2, z0, z1, z2, _⟩ := HC5.out.2.2.2.1.cells
      have hz := HC5.out.lt
      clear hb
      have HS5 := Lib.hid (HC5.out.put (u := s5))
      go_wp2_with fail
      clear a0 a1 a2 e0 e1 e2 x0 x1 x2 z0 z1 z2 hz
      go_loopw [46] (fun _ wr => RhRel w (.slice (some ⟨b, off, none⟩) xs.length cc) xs y1.text n2 RR wr) (fun _ wr => rhLeft xs w.heap.size wr)
      case atStart => exact ⟨s5, [], none, 0, i5, Nat.zero_le _, fun _ => Nat.zero_le _, HS5.out, World.ownsRow_nil _ _ _ _, xs.length, .inr (by omega), HRR.out⟩
      case round =>
        obtain ⟨⟨j, f⟩, l, A, c, hj, hlj, hlf, hst, hown, n, hn, hRn⟩ := hrel
        simp only at hj hlj hlf hn
        have HST := Lib.hid hst
        have HO := Lib.hid hown
        have HLF := Lib.hid (rhLeft_of (xs := xs) hst.1)
        have HRN := Lib.hid hRn
        clear hst hown hRn HS5 HRR
        obtain ⟨a0, a1, a2, e0, e1, e2, _⟩ := HST.out.1.cells
        obtain ⟨x0, x1, x2, z0, z1, z2, _⟩ := HST.out.2.2.2.1.cells
        have hz := HST.out.lt
        cases f with
        | true =>
          have hre : RR = (l, (j, true)) := by rw [← HRN.out, stgsS_stop (.inl rfl)]
          subst hre
          go_wp2_with fail
          obtain ⟨r0, r1, r2, q0, q1, q2, _⟩ := HST.out.2.1.cells
          obtain ⟨t0, t1, t2, v0, v1, v2, _⟩ := HST.out.2.2.1.cells
          go_region
          all_goals
            go_wp2_with fail
            first
              | (obtain ⟨q1, q2, q3, q4⟩ := rh_finA HST.out HO.out rfl
                 (with_reducible refine bodyPost_ret (sc_res _ ?_ q1 ?_ q2) ?_ ?_)
                 · rfl
                 · rfl
                 · rfl
                 · exact ⟨_, _, rfl, q3, q4⟩)
              | (obtain ⟨q1, q2, q3, q4⟩ := rh_finB HST.out HO.out rfl
                 (with_reducible refine bodyPost_ret (sc_res _ ?_ q1 ?_ q2) ?_ ?_)
                 · rfl
                 · rfl
                 · rfl
                 · exact ⟨_, _, rfl, q3, q4⟩)
        | false =>
          obtain ⟨y, hy⟩ : ∃ y, lxAt xs j = y := ⟨_, rfl⟩
          obtain ⟨b', off', hbo, _, _, g0, _, _, _⟩ := lx_reads (HL.out _ HST.out.2.2.2.2) hj hy
          injection hbo with hbo
          injection hbo with hb1 hb2
          subst hb1 hb2
          have HY := Lib.hid hy
          clear hy
          by_cases hk0 : y.kind = 0
          · have hkb : (y.kind != 0) = false := by rw [hk0]; rfl
            have hre : RR = (l, (j, false)) := by rw [← HRN.out, stgsS_stop (.inr (.inl (by rw [HY.out]; exact hk0)))]
            subst hre
            clear hk0
            go_wp2_with fail
            obtain ⟨r0, r1, r2, q0, q1, q2, _⟩ := HST.out.2.1.cells
            obtain ⟨t0, t1, t2, v0, v1, v2, _⟩ := HST.out.2.2.1.cells
            go_region
            all_goals
              go_wp2_with fail
              first
                | (obtain ⟨q1, q2, q3, q4⟩ := rh_finA HST.out HO.out rfl
                   (with_reducible refine bodyPost_ret (sc_res _ ?_ q1 ?_ q2) ?_ ?_)
                   · rfl
                   · rfl
                   · rfl
                   · exact ⟨_, _, rfl, q3, q4⟩)
                | (obtain ⟨q1, q2, q3, q4⟩ := rh_finB HST.out HO.out rfl
                   (with_reducible refine bodyPost_ret (sc_res _ ?_ q1 ?_ q2) ?_ ?_)
                   · rfl
                   · rfl
                   · rfl
                   · exact ⟨_, _, rfl, q3, q4⟩)
          · have hkb : (y.kind != 0) = true := by rw [bne_iff_ne]; exact hk0
            go_wp2_with fail
            refine (ris_any (some ⟨b, off, none⟩) cc xs (j, false) 1 _ _ (HL.out _ HST.out.2.2.2.2) hj hk).mono ?_
            rintro e w1 ⟨he, hb⟩
            have he' : e = .returned (.bool (lxIs (lxAt xs j) 1 scheduleW)) := he
            clear he
            obtain ⟨m, hm⟩ : ∃ m, lxIs (lxAt xs j) 1 scheduleW = m := ⟨_, rfl⟩
            rw [hm] at he'
            subst he'
            have HO1 := Lib.hid (own_keep HO.out (fun g hg => hb.block g (own_lt HO.out g hg).2))
            have HS1 := Lib.hid (HST.out.call hb)
            clear a0 a1 a2 e0 e1 e2 x0 x1 x2 z0 z1 z2 hz
            obtain ⟨a0, a1, a2, e0, e1, e2, _⟩ := HS1.out.1.cells
            obtain ⟨x0, x1, x2, z0, z1, z2, _⟩ := HS1.out.2.2.2.1.cells
            have hz := HS1.out.lt
            clear hb g0
            cases m with
            | true =>
              have hre : RR = (l, (j, false)) := by rw [← HRN.out, stgsS_stop (.inr (.inr hm))]
              subst hre
              clear hm
              go_wp2_with fail
              obtain ⟨r0, r1, r2, q0, q1, q2, _⟩ := HS1.out.2.1.cells
              obtain ⟨t0, t1, t2, v0, v1, v2, _⟩ := HS1.out.2.2.1.cells
              go_region
              all_goals
                go_wp2_with fail
                first
                  | (obtain ⟨q1, q2, q3, q4⟩ := rh_finA HS1.out HO1.out rfl
                     (with_reducible refine bodyPost_ret (sc_res _ ?_ q1 ?_ q2) ?_ ?_)
                     · rfl
                     · rfl
                     · rfl
                     · exact ⟨_, _, rfl, q3, q4⟩)
                  | (obtain ⟨q1, q2, q3, q4⟩ := rh_finB HS1.out HO1.out rfl
                     (with_reducible refine bodyPost_ret (sc_res _ ?_ q1 ?_ q2) ?_ ?_)
                     · rfl
                     · rfl
                     · rfl
                     · exact ⟨_, _, rfl, q3, q4⟩)
            | false =>
              obtain ⟨n', rfl⟩ : ∃ n', n = n' + 1 := ⟨n - 1, by rcases hn with hn | hn; (· cases hn); (· omega)⟩
              have HRM := Lib.hid (show stgsS xs n' (stgS xs (j, false)).2 (l ++ [(stgS xs (j, false)).1]) = RR by
                have h9 := HRN.out
                have hk9 : (lxAt xs j).kind ≠ 0 := by rw [HY.out]; exact hk0
                rw [stgsS, if_neg (by simp [hk9, hm])] at h9
                exact h9)
              have hn9 : xs.length - j ≤ n' + 1 := by rcases hn with hn | hn; (· cases hn); (· exact hn)
              have hin : (stgS xs (j, false)).2.1 < xs.length := (stg_in HEND.out (s := (j, false)) hj).2.2.2.2.2.2.2
              have hge := stgS_ge xs (j, false)
              have hgt := stgS_gt (xs := xs) (s := (j, false))
              obtain ⟨y2, j2, f2, hSg⟩ : ∃ y2 j2 f2, stgS xs (j, false) = (y2, (j2, f2)) := ⟨_, _, _, rfl⟩
              rw [hSg] at HRM hin hge hgt
              simp only at hin hge hgt
              have HSG := Lib.hid hSg
              have hlf' : l.length ≤ j := by first | exact hlf rfl | exact hlf trivial | exact hlf
              clear hm hk0 hSg hkb hlf
              go_wp2_with fail
              have HS2 := Lib.hid (HS1.out.alloc (.cells #[.int .i64 0, .int .i64 0, .int .i64 0, .int .i64 0] 52))
              have HO2 := Lib.hid (World.ownsRow.alloc HO1.out (.cells #[.int .i64 0, .int .i64 0, .int .i64 0, .int .i64 0] 52))
              obtain ⟨N, hN⟩ : ∃ N, w1.heap.size = N := ⟨_, rfl⟩
              have hnew : IsStg (w1.alloc (.cells #[.int .i64 0, .int .i64 0, .int .i64 0, .int .i64 0] 52)) N ⟨0, 0, 0, 0⟩ := by rw [← hN]; exact heap_alloc_last w1 _
              refine (rstage_any (some ⟨b, off, none⟩) cc xs (j, false) _ (HL.out _ HS2.out.2.2.2.2) hj hk HEND.out HNN.out).mono ?_
              rintro e w3 ⟨he, hb⟩
              rw [HSG.out] at he
              subst he
              have hnew3 := hnew.below hb (by rw [World.size_alloc, hN]; omega)
              have HS3 := Lib.hid (HS2.out.call hb)
              have HO3 := Lib.hid (own_keep HO2.out (fun g hg => hb.block g (own_lt HO2.out g hg).2))
              have HNW := Lib.hid hnew3
              have hNl : w.heap.size + 1 + 1 + 1 < N := by have := HS1.out.lt; omega
              rw [hN]
              clear a0 a1 a2 e0 e1 e2 x0 x1 x2 z0 z1 z2 hz
              obtain ⟨a0, a1, a2, e0, e1, e2, _⟩ := HS3.out.1.cells
              obtain ⟨x0, x1, x2, z0, z1, z2, _⟩ := HS3.out.2.2.2.1.cells
              have hz := HS3.out.lt
              obtain ⟨p0, p1, p2, p3, o0, o1, o2, o3, hN3⟩ := hnew3.cells
              clear hb hnew hnew3
              have hst := HS3.out.put (u := (j2, f2))
              go_upto_region 14 with fail
              clear a0 a1 a2 e0 e1 e2 x0 x1 x2 z0 z1 z2 hz p0 p1 p2 p3 o0 o1 o2 o3
              obtain ⟨W4, hW⟩ : ∃ W, ((((((w3.setCell ⟨w.heap.size, 0, none⟩ (.slice (some ⟨b, off, none⟩) xs.length cc)).setCell ⟨w.heap.size, 1, none⟩ (.int .i64 j2)).setCell ⟨w.heap.size, 2, none⟩ (.bool f2)).setCell ⟨N, 0, none⟩ (.int .i64 y2.below)).setCell ⟨N, 1, none⟩ (.int .i64 y2.ticks)).setCell ⟨N, 2, none⟩ (.int .i64 y2.temp)).setCell ⟨N, 3, none⟩ (.int .i64 y2.dep) = W := ⟨_, rfl⟩
              have HS4 := Lib.hid (show RhSt w W4 (.slice (some ⟨b, off, none⟩) xs.length cc) (j2, f2) ⟨y1.text, n2, l⟩ (.slice A l.length c) by
                rw [← hW]
                exact hst.grow (row := some N) (gb_set (gb_set (gb_set (gb_set gb_refl _) _) _) _) (fun g hg => by injection hg; omega))
              have hn4 : IsStg W4 N y2 := by
                rw [← hW]
                exact IsStg.put (((HNW.out.setO (by omega) _).setO (by omega) _).setO (by omega) _)
              have HO4 := Lib.hid (show OwnsSt W4 (w.heap.size + 1 + 1 + 1 + 1) (.slice A l.length c) l by
                rw [← hW]
                refine own_keep HO3.out (fun g hg => ?_)
                have h1 := (own_lt HO3.out g hg).1
                have h2 : g ≠ N := by have := (own_lt HO1.out g hg).2; omega
                refine (Below.heap_setCell _ _ _ _ ?_).trans ((Below.heap_setCell _ _ _ _ ?_).trans ((Below.heap_setCell _ _ _ _ ?_).trans ((Below.heap_setCell _ _ _ _ ?_).trans ((Below.heap_setCell _ _ _ _ ?_).trans ((Below.heap_setCell _ _ _ _ ?_).trans (Below.heap_setCell _ _ _ _ ?_))))))
                all_goals (first | (show g ≠ N; omega) | (show g ≠ w.heap.size; omega)))
              rw [hW]
              obtain ⟨p0, p1, p2, p3, _, _, _, _, hN4⟩ := hn4.cells
              obtain ⟨i0, hi0, hq0, hq1, hq2⟩ := info_parts info_Stg
              have u0 := HS4.out.2.2.2.1.cells.2.2.1
              have hml4 : l.length ≤ 1000000 := by omega
              clear hW hst hn4
              go_wp2_with (first
                | (at_builtin; refine wpList_append_lies _ (by rfl) (.tmp 71) (.tmp 73) 22 (by rfl) (w.heap.size + 1 + 1 + 1 + 1) 52 i0 _ 4 32 Tryd.underlying22 hi0 hq0 hq1 hq2 rfl (by omega) (.slice A l.length c) l.length (stgsCells l) (by rfl) (World.ownsRow.alloc HO4.out _) ⟨W4.heap.size, 0, none⟩ 1 1 (stgCells y2) (by rfl) (by rfl) (World.news_of_block (cs := (stgCells y2).toArray) (t := 52) (fr := (0, 0)) (heap_alloc_last W4 _)) (stg_mem y2) (by omega) (by simp only [maxLen]; omega) (by omega) (by rw [World.size_alloc]; omega) _ rfl ?_; intro gg cap w5 hown5 hgrow hat hlt; have HG5 := Lib.hid ((HS4.out.alloc _).grow hgrow (fun g hg => (own_lt HO4.out g hg).1)); have HOW5 := Lib.hid hown5; have u5 := HG5.out.2.2.2.1.cells.2.2.1; have u6 := HG5.out.2.2.2.1.cells.2.2.2.2.2.1; have hlt5 := HG5.out.lt; clear hown5 hgrow hat hlt))
              have HS6 := Lib.hid (HG5.out.set 2 (.slice (some ⟨gg, 0, none⟩) (l.length + 1) cap) ⟨y1.text, n2, l ++ [y2]⟩ (.slice (some ⟨gg, 0, none⟩) (l ++ [y2]).length cap) (by rw [List.length_append]; rfl))
              have HO6 := Lib.hid (show OwnsSt (w5.setCell ⟨w.heap.size + 1 + 1 + 1, 2, none⟩ (.slice (some ⟨gg, 0, none⟩) (l.length + 1) cap)) (w.heap.size + 1 + 1 + 1 + 1) (.slice (some ⟨gg, 0, none⟩) (l ++ [y2]).length cap) (l ++ [y2]) by
                unfold OwnsSt
                rw [List.length_append, stgsCells_snoc]
                exact own_keep HOW5.out (fun g hg => Below.heap_setCell _ _ _ _ (by have := (own_lt HOW5.out g hg).1; show g ≠ w.heap.size + 1 + 1 + 1; omega)))
              have HLG := Lib.hid (rhLeft_of (xs := xs) HS6.out.1)
              clear u0 u5 u6 hlt5
              refine ⟨⟨(j2, f2), l ++ [y2], some ⟨gg, 0, none⟩, cap, hin, ?_, ?_, HS6.out, HO6.out, n', ?_, HRM.out⟩, ?_⟩
              · rw [List.length_append]; simp only [List.length_cons, List.length_nil]; omega
              · intro h; have := hgt h; rw [List.length_append]; simp only [List.length_cons, List.length_nil]; omega
              · cases f2 with
                | true => exact .inl rfl
                | false => have := hgt rfl; exact .inr (by show xs.length - j2 ≤ n'; omega)
              · rw [HLG.out, HLF.out]
                cases f2 with
                | true => simp
                | false => have := hgt rfl; simp only [Bool.false_eq_true, if_false]; omega
    · have hkb : (y1.kind != 1) = true := by rw [bne_iff_ne]; exact hk1
      have hs2 : sc2 xs s = (k1, true) := by rw [sc2, HQ1.out, nextK_f (by rw [HY1.out]; exact hk1)]
      have hz0 := scS_zero (xs := xs) (s := s) (by rw [hs2])
      rw [hs2, HR.out] at hz0
      subst hz0
      clear hk1 hs2
      have hst := HS1.out.bad
      go_upto_region 5 with fail
      clear a0 a1 a2 e0 e1 e2 x0 x1 x2 z0 z1 z2 hz
      obtain ⟨W2, hW⟩ : ∃ W, W1.setCell ⟨w.heap.size, 2, none⟩ (.bool true) = W := ⟨_, rfl⟩
      rw [hW] at hst
      rw [hW]
      have HS2 := Lib.hid hst
      clear hW hst
      obtain ⟨a0, a1, a2, e0, e1, e2, _⟩ := HS2.out.1.cells
      obtain ⟨x0, x1, x2, z0, z1, z2, _⟩ := HS2.out.2.2.2.1.cells
      have hz := HS2.out.lt
      obtain ⟨r0, r1, r2, q0, q1, q2, _⟩ := HS2.out.2.1.cells
      obtain ⟨t0, t1, t2, v0, v1, v2, _⟩ := HS2.out.2.2.1.cells
      go_region
      all_goals
        go_wp2_with fail
        first
          | (obtain ⟨q1, q2, q3, q4⟩ := rh_finA HS2.out (show OwnsSt _ (w.heap.size + 1 + 1 + 1 + 1) (.slice none 0 0) [] from World.ownsRow_nil _ _ _ _) rfl
             (with_reducible refine bodyPost_ret (sc_res _ ?_ q1 ?_ q2) ?_ ?_)
             · rfl
             · rfl
             · rfl
             · exact ⟨_, _, rfl, q3, q4⟩)
          | (obtain ⟨q1, q2, q3, q4⟩ := rh_finB HS2.out (show OwnsSt _ (w.heap.size + 1 + 1 + 1 + 1) (.slice none 0 0) [] from World.ownsRow_nil _ _ _ _) rfl
             (with_reducible refine bodyPost_ret (sc_res _ ?_ q1 ?_ q2) ?_ ?_)
             · rfl
             · rfl
             · rfl
             · exact ⟨_, _, rfl, q3, q4⟩)
end Go.Proofs.YtabdlldkkcjppaaDoor
