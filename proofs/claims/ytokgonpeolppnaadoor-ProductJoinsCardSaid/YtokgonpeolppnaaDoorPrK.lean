/-
  The contract of product.Parse.
-/
import Derived.Test.YtokgonpeolppnaaDoorPrJ
import Derived.Test.YtokgonpeolppnaaDoorPlainB
import Derived.Deep.RegionHeldLaw
namespace Saw
theorem lexS_text {xs : List Lx} {M : Nat} (h : ∀ x ∈ xs, x.text.length ≤ M) (s : Nat × Bool) (p : Int × List UInt8) : (lexS xs s p).text.length ≤ M := by
  unfold lexS
  split
  · exact lxAt_text h _
  · exact Nat.zero_le _
theorem prodS_name {xs : List Lx} {M : Nat} (h : ∀ x ∈ xs, x.text.length ≤ M) (s : Nat × Bool) : (prodS xs s).1.name.length ≤ M := lexS_text h _ _
theorem prodS_ge (xs : List Lx) (s : Nat × Bool) : s.1 ≤ (prodS xs s).2.1 := by
  have h2 : s.1 ≤ (hd10 xs s).1 := by
    unfold hd10 hd9 hd8 hd7 hd6 hd5 hd4 hd3 hd2 hd1
    exact Nat.le_trans (nextS_ge _ _ _) (Nat.le_trans (nextS_ge _ _ _) (Nat.le_trans (nextS_ge _ _ _) (Nat.le_trans (nextS_ge _ _ _) (Nat.le_trans (nextS_ge _ _ _) (Nat.le_trans (nextS_ge _ _ _) (Nat.le_trans (nextS_ge _ _ _) (Nat.le_trans (nextS_ge _ _ _) (Nat.le_trans (nextS_ge _ _ _) (nextS_ge _ _ _)))))))))
  exact Nat.le_trans h2 (Nat.le_trans (pairsS_ge xs xs.length (hd10 xs s) [] []) (nextS_ge _ _ _))
theorem prodAll_stop {xs : List Lx} {s : Nat × Bool} (h : s.2 = true ∨ (lxAt xs s.1).kind = 0) (n : Nat) (l : List Pr) (os : List Int) : prodAll xs n s l os = (l, os, s) := by
  cases n with
  | zero => rfl
  | succ n => rw [prodAll, if_pos h]
theorem ends_ofP {xs : List Lx} {p : Int} (h : ∀ x ∈ xs, x.kind ≠ 0) : LxEnds (xs ++ [lxEnd p]) := by
  intro i x hx hk
  have hi := (List.getElem?_eq_some_iff.1 hx).1
  rw [List.length_append, List.length_singleton] at hi ⊢
  by_cases h1 : i < xs.length
  · omega
  · have : i = xs.length := by omega
    subst this
    rw [List.getElem?_append_right (Nat.le_refl _), Nat.sub_self] at hx
    injection hx with hx
    subst hx
    exact absurd rfl hk
theorem headsErr_end (l : List Pr) (os : List Int) (k : Nat) (h : ¬ k < os.length) (j : Nat) : headsErr l (os.drop k) j = (0, 0) := by
  rw [List.drop_eq_nil_of_le (by omega), headsErr]
theorem headsErr_at {l : List Pr} {os : List Int} {k : Nat} {o : Int} (h : os[k]? = some o) : headsErr l (os.drop k) k = if checkPr (l.take (k + 1)) ≠ 0 then (checkPr (l.take (k + 1)), o) else headsErr l (os.drop (k + 1)) (k + 1) := by
  obtain ⟨hk, hn⟩ := List.getElem?_eq_some_iff.1 h
  rw [List.drop_eq_getElem_cons hk, hn, headsErr]
end Saw
namespace Go.Proofs.YtokgonpeolppnaaDoor
open Go.RowKit Saw

theorem own_keep {w w' : World} {base size n : Nat} {e : TypeId} {v : Value} {xs : List Value} (h : w.ownsRow base e size v n xs) (hk : ∀ k, v.ownBlock = some k → w'.heap[k]? = w.heap[k]?) : w'.ownsRow base e size v n xs := by
  refine ⟨h.1, ?_⟩
  rcases h.2 with hn | ⟨g, cap, cur, rfl, hbg, hgg, rest⟩
  · exact .inl hn
  · exact .inr ⟨g, cap, cur, rfl, hbg, (hk g rfl).trans hgg, rest⟩
theorem own_lt {w : World} {base size n : Nat} {e : TypeId} {v : Value} {xs : List Value} (h : w.ownsRow base e size v n xs) : ∀ g, v.ownBlock = some g → base ≤ g ∧ g < w.heap.size := by
  intro g hg
  rcases h.2 with ⟨hn, _⟩ | ⟨g', cap, cur, rfl, hbg, hgg, rest⟩
  · subst hn; cases hg
  · have e : g' = g := by simpa [Value.ownBlock] using hg
    subst e
    exact ⟨hbg, (Array.getElem?_eq_some_iff.1 hgg).1⟩
/-- Products of the call's own, with their lengths and prices, and numbers of its own, each in a row of its own. -/
def ParMem (w : World) (base : Nat) (v vs : Value) (l : List Pr) (os : List Int) (m : List (Pr × Value × Value)) : Prop :=
  m.map (·.1) = l ∧ w.ownsRow base 29 7 v m.length (prsCells m) ∧ OwnsI w base vs os ∧ Apart vs v ∧
    ∀ y ∈ m, OwnsI w base y.2.1 y.1.lens ∧ OwnsI w base y.2.2 y.1.prices ∧ Apart v y.2.1 ∧ Apart v y.2.2 ∧ Apart vs y.2.1 ∧ Apart vs y.2.2
section
variable {w w' W w5 : World} {base rb gg cap : Nat} {v vs : Value} {l : List Pr} {os : List Int} {m : List (Pr × Value × Value)} {o : Obj}
theorem ParMem.keep (h : ParMem w base v vs l os m) (hk : ∀ k, base ≤ k → k < w.heap.size → w'.heap[k]? = w.heap[k]?) : ParMem w' base v vs l os m := by
  obtain ⟨h1, h2, h3, h4, h5⟩ := h
  have hh : ∀ {e size u n xs}, w.ownsRow base e size u n xs → w'.ownsRow base e size u n xs := fun hu => own_keep hu fun k hk' => hk k (own_lt hu k hk').1 (own_lt hu k hk').2
  exact ⟨h1, hh h2, hh h3, h4, fun y hy => ⟨hh (h5 y hy).1, hh (h5 y hy).2.1, (h5 y hy).2.2⟩⟩
theorem ParMem.gb (h : ParMem w base v vs l os m) (hg : w.grownBy w' (some rb)) (hb : rb < base) : ParMem w' base v vs l os m :=
  h.keep fun k hk hlt => hg.block k hlt (fun e => by injection e; omega)
theorem ParMem.nil (w : World) (base : Nat) : ParMem w base (.slice none 0 0) (.slice none 0 0) [] [] [] :=
  ⟨rfl, World.ownsRow_nil _ _ _ _, World.ownsRow_nil _ _ _ _, nofun, nofun⟩
theorem alloc_old {k : Nat} (h : k < w.heap.size) : (w.alloc o).heap[k]? = w.heap[k]? := Below.heap_alloc w o k h
theorem ParMem.pushS {x : Int} (h : ParMem w base v vs l os m) (hown : w5.ownsRow base 3 1 (.slice (some ⟨gg, 0, none⟩) (os.length + 1) cap) (os.length + 1) (ints os ++ [.int .i64 x])) (hgrow : (w.alloc o).grownBy w5 vs.ownBlock) (hat : vs.ownBlock = some gg ∨ gg = (w.alloc o).heap.size) :
    ParMem w5 base v (.slice (some ⟨gg, 0, none⟩) (os.length + 1) cap) l (os ++ [x]) m := by
  obtain ⟨h1, h2, h3, h4, h5⟩ := h
  have hh : ∀ {e size u n xs}, w.ownsRow base e size u n xs → Apart vs u → w5.ownsRow base e size u n xs := fun hu ha => own_keep hu fun k hk' => by
    have hlt := (own_lt hu k hk').2
    rw [hgrow.block k (by rw [World.size_alloc]; omega) (fun e => ha k e.symm hk'), alloc_old hlt]
  have ha : ∀ {e size u n xs}, w.ownsRow base e size u n xs → Apart vs u → Apart (.slice (some ⟨gg, 0, none⟩) (os.length + 1) cap) u := fun hu ha g hg hv => by
    have e : some gg = some g := hg
    injection e with e
    subst e
    rcases hat with hq | hq
    · exact ha _ hq hv
    · have := (own_lt hu _ hv).2
      rw [World.size_alloc] at hq
      omega
  refine ⟨h1, hh h2 h4, ?_, ha h2 h4, fun y hy => ?_⟩
  · unfold OwnsI
    rw [List.length_append, ints_snoc]
    exact hown
  · obtain ⟨y1, y2, y3, y4, y5, y6⟩ := h5 y hy
    exact ⟨hh y1 y5, hh y2 y6, y3, y4, ha y1 y5, ha y2 y6⟩
theorem prsCells_snoc (m : List (Pr × Value × Value)) (y : Pr × Value × Value) : prsCells (m ++ [y]) = prsCells m ++ prCells y.1 y.2.1 y.2.2 := by simp [prsCells]
theorem ParMem.pushP {x : Pr} {lv pv : Value} {B : Nat} (h : ParMem w base v vs l os m) (h1 : OwnsI w B lv x.lens) (h2 : OwnsI w B pv x.prices) (hB : base ≤ B) (hv : ∀ g, v.ownBlock = some g → g < B) (hvs : ∀ g, vs.ownBlock = some g → g < B)
    (hown : w5.ownsRow base 29 7 (.slice (some ⟨gg, 0, none⟩) (m.length + 1) cap) (m.length + 1) (prsCells m ++ prCells x lv pv)) (hgrow : (w.alloc o).grownBy w5 v.ownBlock) (hat : v.ownBlock = some gg ∨ gg = (w.alloc o).heap.size) :
    ParMem w5 base (.slice (some ⟨gg, 0, none⟩) (m.length + 1) cap) vs (l ++ [x]) os (m ++ [(x, lv, pv)]) := by
  obtain ⟨q1, q2, q3, q4, q5⟩ := h
  have hh : ∀ {b e size u n xs}, w.ownsRow b e size u n xs → Apart v u → w5.ownsRow b e size u n xs := fun hu ha => own_keep hu fun k hk' => by
    have hlt := (own_lt hu k hk').2
    rw [hgrow.block k (by rw [World.size_alloc]; omega) (fun e => ha k e.symm hk'), alloc_old hlt]
  have ha : ∀ {b e size u n xs}, w.ownsRow b e size u n xs → Apart v u → Apart (.slice (some ⟨gg, 0, none⟩) (m.length + 1) cap) u := fun hu ha g hg hv => by
    have e : some gg = some g := hg
    injection e with e
    subst e
    rcases hat with hq | hq
    · exact ha _ hq hv
    · have := (own_lt hu _ hv).2
      rw [World.size_alloc] at hq
      omega
  have f1 : ∀ {u : Value} {ns : List Int}, OwnsI w B u ns → ∀ z : Value, (∀ g, z.ownBlock = some g → g < B) → Apart z u := fun hu z hz g hg hv => by
    have := (own_lt hu g hv).1
    have := hz g hg
    omega
  refine ⟨by rw [List.map_append, q1]; rfl, ?_, hh q3 q4.symm, (ha q3 q4.symm).symm, fun y hy => ?_⟩
  · rw [List.length_append, prsCells_snoc]
    exact hown
  · rcases List.mem_append.1 hy with hy | hy
    · obtain ⟨y1, y2, y3, y4, y5, y6⟩ := q5 y hy
      exact ⟨hh y1 y3, hh y2 y4, ha y1 y3, ha y2 y4, y5, y6⟩
    · rw [List.mem_singleton.1 hy]
      exact ⟨OwnsI.deeper (hh h1 (f1 h1 v hv)) hB, OwnsI.deeper (hh h2 (f1 h2 v hv)) hB, ha h1 (f1 h1 v hv), ha h2 (f1 h2 v hv), f1 h1 vs hvs, f1 h2 vs hvs⟩
theorem ParMem.rd (h : ParMem w base v vs l os m) : RdPr w w.heap.size v l ∧ RdI w w.heap.size vs os := by
  obtain ⟨h1, h2, h3, h4, h5⟩ := h
  exact ⟨⟨m, h1, Rd.of_own h2, fun y hy => ⟨Rd.of_own (h5 y hy).1, Rd.of_own (h5 y hy).2.1⟩⟩, Rd.of_own h3⟩
end

theorem gb_ownP {w W w5 : World} {rb : Nat} {row : Option Nat} (h : w.grownBy W (some rb)) (hg : W.grownBy w5 row) (hr : ∀ g, row = some g → w.heap.size ≤ g) : w.grownBy w5 (some rb) :=
  ⟨hg.os.trans h.os, hg.tape.trans h.tape, hg.output.trans h.output, Nat.le_trans h.size hg.size, fun k hk hne => (hg.block k (Nat.lt_of_lt_of_le hk h.size) (fun e => by have := hr k e.symm; omega)).trans (h.block k hk hne)⟩

def ParsePrPost (r : List Pr × Int × Int) (w : World) (e : Ending) (w' : World) : Prop :=
  ∃ v, e = .returned (.tuple #[v, .int .i64 r.2.1, .int .i64 r.2.2]) ∧ RdPr w' w'.heap.size v r.1 ∧ Below w.heap.size w w'
def ParRel (w0 : World) (rb : Nat) (lv : Value) (xs : List Lx) (R : List Pr × List Int × (Nat × Bool)) (vl vs : Value) (wr : World) : Prop :=
  ∃ (s : Nat × Bool) (l : List Pr) (os : List Int) (m : List (Pr × Value × Value)), s.1 < xs.length ∧ IsPrR wr rb lv s.1 s.2 ∧ ParMem wr (rb + 1) vl vs l os m ∧ w0.grownBy wr (some rb) ∧ l.length ≤ s.1 + 1 ∧ os.length = l.length ∧ (s.2 = false → l.length ≤ s.1) ∧
    (∀ x ∈ l, x.name.length ≤ 100000) ∧ ∃ n, (s.2 = true ∨ xs.length - s.1 ≤ n) ∧ prodAll xs n s l os = R
def parLeft (xs : List Lx) (rb : Nat) (w : World) : Nat := match w.cell? ⟨rb, 2, none⟩, w.cell? ⟨rb, 1, none⟩ with | some (.bool false), some (.int _ n) => xs.length - n.toNat + 1 | _, _ => 0
theorem parLeft_of {xs : List Lx} {w : World} {rb k : Nat} {lv : Value} {f : Bool} (h : IsPrR w rb lv k f) : parLeft xs rb w = if f then 0 else xs.length - k + 1 := by
  unfold parLeft
  simp only [h.cells.2.1, h.cells.2.2.1]
  cases f <;> simp
theorem rdPr_nil (w : World) (B : Nat) : RdPr w B (.slice none 0 0) [] := ⟨[], rfl, Rd.none_, nofun⟩
theorem info_pr : (Tryd.prog.info? 29).map (fun i => (i.zero, i.size, i.bytes)) = some (some (.agg #[.string ⟨#[]⟩, .int .i64 0, .int .i64 0, .int .i64 0, .int .i64 0, .slice none 0 0, .slice none 0 0]), 7, 96) := by kernel_rfl

set_option maxRecDepth 100000 in
set_option maxHeartbeats 1000000 in
theorem parse_pr (s : ByteArray) (w : World) (hs : s.size ≤ 9223372036854775807) :
    Calls Tryd.prog 22 #[.string s] w (ParsePrPost (parsePr (bts s)) w) := by
  obtain ⟨r, hr⟩ : ∃ r, parsePr (bts s) = r := ⟨_, rfl⟩
  rw [hr]
  have HR := Lib.hid hr
  clear hr
  go_enter Tryd.func22, Tryd.ntmps22
  go_wp2_with fail
  refine (scan_any s _ hs).mono ?_
  rintro e w1 ⟨v, he, ho, hb⟩
  obtain ⟨xs, er, at_, hsc⟩ : ∃ xs er at_, scanP (bts s) = (xs, er, at_) := ⟨_, _, _, rfl⟩
  rw [hsc] at he ho
  subst he
  have HB := Lib.hid hb
  have hsz := hb.size
  clear hb
  by_cases her : er = 0
  · subst her
    have hgood := scanP_good (bts s) (by rw [hsc])
    rw [hsc] at hgood
    obtain ⟨_, _, ⟨xs0, hxs0, hk0⟩, hlen, htx⟩ := hgood
    simp only at hxs0 hlen htx
    have hrd : Rd w1 w1.heap.size 4 v xs.length (lxsCells xs) := Rd.of_own ho
    have hends : LxEnds xs := by rw [hxs0]; exact ends_ofP hk0
    have hpos : 0 < xs.length := by rw [hxs0, List.length_append, List.length_singleton]; omega
    obtain ⟨_, _, A0, cc, rfl, _, hcs⟩ := id hrd
    obtain ⟨b, off, rfl, hbb, _⟩ := hcs (by omega)
    have HRD := Lib.hid hrd
    have HENDS := Lib.hid hends
    have HTX := Lib.hid htx
    obtain ⟨RR, hRR⟩ : ∃ RR, prodAll xs xs.length (0, false) [] [] = RR := ⟨_, rfl⟩
    have hre : r = (if RR.2.2.2 = true then ([], 5, (lxAt xs RR.2.2.1).off) else if (headsErr RR.1 RR.2.1 0).1 ≠ 0 then ([], (headsErr RR.1 RR.2.1 0).1, (headsErr RR.1 RR.2.1 0).2) else (RR.1, 0, 0)) := by
      rw [← HR.out, parsePr, hsc]
      simp only [hRR, ne_eq, not_true_eq_false, if_false]
    have HRE := Lib.hid hre
    have HRR := Lib.hid hRR
    clear hrd hends htx hsc ho hxs0 hk0 hcs hre hRR HR
    go_wp2_with fail
    have hrdr : IsPrR (w1.alloc (.cells #[.slice (some ⟨b, off, none⟩) xs.length cc, .int .i64 0, .bool false] 56)) w1.heap.size (.slice (some ⟨b, off, none⟩) xs.length cc) 0 false := heap_alloc_last w1 _
    obtain ⟨w0, hw0⟩ : ∃ w0, w1.alloc (.cells #[.slice (some ⟨b, off, none⟩) xs.length cc, .int .i64 0, .bool false] 56) = w0 := ⟨_, rfl⟩
    have hb0 : Below w.heap.size w w0 := by rw [← hw0]; exact HB.out.alloc hsz _
    have hrd0 : Rd w0 w1.heap.size 4 (.slice (some ⟨b, off, none⟩) xs.length cc) xs.length (lxsCells xs) := by rw [← hw0]; exact HRD.out.below ((Below.refl _ _).alloc (Nat.le_refl _) _)
    have hz0 : w0.heap.size = w1.heap.size + 1 := by rw [← hw0, World.size_alloc]
    rw [hw0] at hrdr
    rw [hw0]
    obtain ⟨rb, hrb⟩ : ∃ rb, w1.heap.size = rb := ⟨_, rfl⟩
    rw [hrb] at hrdr hrd0 hz0 hbb hsz
    rw [hrb]
    have HRD0 := Lib.hid hrd0
    have HB0 := Lib.hid hb0
    have HRDR := Lib.hid hrdr
    clear hrdr hrd0 hb0 hw0 hrb HRD HB
    go_loopw [9, 10] (ParRel w0 rb (.slice (some ⟨b, off, none⟩) xs.length cc) xs RR) (fun _ _ wr => parLeft xs rb wr)
    case atStart => exact ⟨(0, false), [], [], [], hpos, HRDR.out, ParMem.nil _ _, gb_refl, by simp, rfl, fun _ => by simp, nofun, xs.length, .inr (by simp), HRR.out⟩
    case round =>
      obtain ⟨⟨k, f⟩, l, os, m, hkx, hri, hm, hgi, hll, hol, hlk, hnm, n, hn, hpa⟩ := hrel
      simp only at hkx hri hll hlk hn
      obtain ⟨A1, q1, hu9, hq1, _⟩ := hm.rd.1.form
      subst hu9
      obtain ⟨A2, q2, hu10⟩ := hm.2.2.1.form
      subst hu10
      obtain ⟨c0, c1, c2, f1, f2, hrs⟩ := hri.cells
      obtain ⟨x, hxe⟩ : ∃ x, lxAt xs k = x := ⟨_, rfl⟩
      have hx := lxAt_some hkx
      rw [hxe] at hx
      obtain ⟨_, hml, A9, cp9, hA9, hcp, hcs⟩ := HRD0.out.gb hgi (Nat.le_refl _) (by omega)
      injection hA9 with e1 e2 e3
      subst e1 e3
      obtain ⟨b9, off9, hA9, _, hcell⟩ := hcs (by omega)
      injection hA9 with hA9
      injection hA9 with e4 e5
      subst e4 e5
      obtain ⟨k0, k1, k2, k3⟩ := lxs_at xs k x hx
      have hbs : b < wr.heap.size := by omega
      have d0 := hcell _ _ k0
      have d3 := hcell _ _ k3
      rw [← Nat.add_assoc] at d3
      unfold maxLen at hml
      have HPL := Lib.hid (parLeft_of (xs := xs) hri)
      have HRI := Lib.hid hri
      have HM := Lib.hid hm
      have HGI := Lib.hid hgi
      have HX := Lib.hid hxe
      have HPA := Lib.hid hpa
      have HNM := Lib.hid hnm
      have HBW := Lib.hid (show Below w.heap.size w wr from below_of_gb HB0.out hgi (by omega) hsz)
      have HOL := Lib.hid hol
      have hol' : os.length ≤ k + 1 := by omega
      have hol2 : f = false → os.length ≤ k := fun h => by have := hlk h; omega
      clear hri hgi hxe hx hcell hcs k0 k1 k2 k3 hpa hnm HRDR hol
      cases f with
      | true =>
        have hR : RR = (l, os, (k, true)) := by rw [← HPA.out, prodAll_stop (.inl rfl)]
        have hrz : r = ([], 5, x.off) := by rw [HRE.out, hR, if_pos rfl, HX.out]
        subst hrz
        clear hR HPA HM hm HRE HRR
        go_wp2_with fail
        go_quiet (fail)
        go_wp2_with fail
        go_quiet (fail)
        go_wp2_with fail
        go_ret3
        exact ⟨_, rfl, rdPr_nil _ _, below_drewNn (below_drewNn HBW.out _) _⟩
      | false =>
        by_cases hend : x.kind = 0
        · have hR : RR = (l, os, (k, false)) := by rw [← HPA.out, prodAll_stop (.inr (by rw [HX.out]; exact hend))]
          have hkb : (x.kind != 0) = false := by rw [hend]; rfl
          obtain ⟨E, hE⟩ : ∃ E, headsErr l os 0 = E := ⟨_, rfl⟩
          have hrz : r = (if E.1 ≠ 0 then ([], E.1, E.2) else (l, 0, 0)) := by rw [HRE.out, hR]; simp only [hE, Bool.false_eq_true, if_false]
          have HRZ := Lib.hid hrz
          have HE := Lib.hid (show headsErr l (os.drop 0) 0 = E from hE)
          clear hend HPA hR hE hrz HRE HRR hm
          go_wp2_with fail
          go_quiet (fail)
          go_wp2_with fail
          obtain ⟨W, hW⟩ : ∃ W, wr.drewN nq = W := ⟨_, rfl⟩
          have hmW : ParMem W (rb + 1) (.slice A1 l.length q1) (.slice A2 os.length q2) l os m := by rw [← hW]; exact HM.out
          have hbW : Below w.heap.size w W := by rw [← hW]; exact below_drewNn HBW.out _
          obtain ⟨hrl, hro⟩ := hmW.rd
          have HRL := Lib.hid hrl
          have HRO := Lib.hid hro
          have HBX := Lib.hid hbW
          have hszW := hbW.size
          rw [hW]
          clear hW hmW hbW hrl hro HM HBW HRI HGI c0 c1 c2 f1 f2 d0 d3 HPL
          go_loopw [82] (fun i w2 => ∃ j : Nat, j ≤ os.length ∧ i = .int .i64 j ∧ headsErr l (os.drop j) j = E ∧ Below W.heap.size W w2) (fun i _ => os.length - (intOf i).toNat)
          case atStart => exact ⟨0, Nat.zero_le _, rfl, HE.out, Below.refl _ _⟩
          case round =>
            obtain ⟨j, hj, rfl, hej, hb2⟩ := hrel
            have HB2 := Lib.hid hb2
            have hsz2 := hb2.size
            clear hb2
            by_cases hlt : j < os.length
            · obtain ⟨y, hy⟩ : ∃ y, os[j]? = some y := ⟨_, List.getElem?_eq_getElem hlt⟩
              rw [headsErr_at hy] at hej
              obtain ⟨bo, oo, hA2, hbo, cy⟩ := RdI.at_ (HRO.out.below HB2.out) hy
              subst hA2
              obtain ⟨z, hz⟩ : ∃ z, l[j]? = some z := ⟨_, List.getElem?_eq_getElem (by have := HOL.out; omega)⟩
              obtain ⟨bl, ol, _, _, _, _, hA1, _⟩ := RdPr.at_ (HRL.out.below HB2.out) hz
              subst hA1
              have hjl : j < l.length := by have := HOL.out; omega
              have HTK := Lib.hid (RdPr.take (HRL.out.below HB2.out) (j + 1) (by omega))
              have HEJ := Lib.hid hej
              have hk1 : (0 : Int) ≤ (j : Int) + 1 := by omega
              have hk2 : (j : Int) + 1 ≤ (q1 : Int) := by omega
              clear hej hy hz
              go_wp2_with fail
              refine (prCheck_any (l.take (j + 1)) _ _ (HTK.out.more hsz2) (fun x hx => Nat.le_trans (HNM.out x (List.mem_of_mem_take hx)) (by omega))).mono ?_
              rintro e w3 ⟨he, hb3⟩
              obtain ⟨q, hq⟩ : ∃ q, checkPr (l.take (j + 1)) = q := ⟨_, rfl⟩
              rw [hq] at he
              subst he
              have HB3 := Lib.hid (HB2.out.trans (hb3.mono hsz2))
              clear hb3
              by_cases hq0 : q = 0
              · subst hq0
                have HN := Lib.hid (show headsErr l (os.drop (j + 1)) (j + 1) = E by have h9 := HEJ.out; rw [if_neg (by rw [hq]; simp)] at h9; exact h9)
                clear hq
                go_wp2_with fail
                exact ⟨⟨j + 1, by omega, by go_num, HN.out, HB3.out⟩, by simp [intOf]; omega⟩
              · have hEz : E = (q, y) := by rw [← HEJ.out, if_pos (by rw [hq]; exact hq0), hq]
                have hrz : r = ([], q, y) := by rw [HRZ.out, hEz, if_pos hq0]
                have hqb : (q != 0) = true := by rw [bne_iff_ne]; exact hq0
                subst hrz
                clear hEz hq hq0
                go_wp2_with fail
                go_ret3
                exact ⟨_, rfl, rdPr_nil _ _, HBX.out.trans (HB3.out.mono hszW)⟩
            · have hEz : E = (0, 0) := by rw [← hej, headsErr_end _ _ _ hlt]
              have hrz : r = (l, 0, 0) := by rw [HRZ.out, hEz]; simp
              subst hrz
              clear hej hEz HE
              go_wp2_with fail
              go_ret3
              exact ⟨_, rfl, (HRL.out.below HB2.out).more hsz2, HBX.out.trans (HB2.out.mono hszW)⟩
        · have hkb : (x.kind != 0) = true := by rw [bne_iff_ne]; exact hend
          obtain ⟨n', rfl⟩ : ∃ n', n = n' + 1 := ⟨n - 1, by rcases hn with hn | hn; (· cases hn); (· omega)⟩
          have HPB := Lib.hid (show prodAll xs n' (prodS xs (k, false)).2 (l ++ [(prodS xs (k, false)).1]) (os ++ [x.off]) = RR by
            have h9 := HPA.out; rw [prodAll, if_neg (by simp [HX.out, hend]), HX.out] at h9; exact h9)
          have hlk' := hlk rfl
          have hnn : xs.length - k ≤ n' + 1 := by rcases hn with hn | hn; (· cases hn); (· exact hn)
          have hov := own_lt hm.2.1
          have hos := own_lt hm.2.2.1
          have HOV := Lib.hid hov
          have HOS := Lib.hid hos
          obtain ⟨i0, hi0, hz0', hz1, hz2⟩ := info_parts info_int
          clear hend HPA hn hlk hov hm
          go_wp2_with fail
          go_quiet (fail)
          go_wp2_with fail
          obtain ⟨W, hW⟩ : ∃ W, wr.drewN nq = W := ⟨_, rfl⟩
          have HMW := Lib.hid (show ParMem W (rb + 1) (.slice A1 l.length q1) (.slice A2 os.length q2) l os m by rw [← hW]; exact HM.out)
          have HRW := Lib.hid (show IsPrR W rb (.slice (some ⟨b, off, none⟩) xs.length cc) k false by rw [← hW]; exact HRI.out)
          have HGW := Lib.hid (show w0.grownBy W (some rb) by rw [← hW]; exact gb_drewN HGI.out _)
          have hrsW : rb < W.heap.size := by rw [← hW]; exact hrs
          have hbsW : b < W.heap.size := by rw [← hW]; exact hbs
          have e0 : W.cell? ⟨rb, 0, none⟩ = some (.slice (some ⟨b, off, none⟩) xs.length cc) := by rw [← hW]; exact c0
          have e1 : W.cell? ⟨rb, 1, none⟩ = some (.int .i64 k) := by rw [← hW]; exact c1
          have e3 : W.cell? ⟨b, off + k * 4 + 3, none⟩ = some (.int .i64 x.off) := by rw [← hW]; exact d3
          have HKP := Lib.hid (show ∀ W' : World, W.grownBy W' (Value.slice A2 os.length q2).ownBlock → W'.cell? ⟨rb, 0, none⟩ = some (.slice (some ⟨b, off, none⟩) xs.length cc) ∧ W'.cell? ⟨rb, 1, none⟩ = some (.int .i64 k) ∧ W'.cell? ⟨b, off + k * 4 + 3, none⟩ = some (.int .i64 x.off) from fun W' hg =>
            ⟨(World.cell?_of_block (a := ⟨rb, 0, none⟩) (hg.block rb hrsW (fun e => by have := (hos rb e.symm).1; omega))).trans e0, (World.cell?_of_block (a := ⟨rb, 1, none⟩) (hg.block rb hrsW (fun e => by have := (hos rb e.symm).1; omega))).trans e1, (World.cell?_of_block (a := ⟨b, off + k * 4 + 3, none⟩) (hg.block b hbsW (fun e => by have := (hos b e.symm).1; omega))).trans e3⟩)
          rw [hW]
          clear hW HM HRI HGI c0 c1 c2 f1 f2 d0 d3 hrs hbs hos
          go_region_held_law (fun W => W.cell? ⟨rb, 0, none⟩ = some (.slice (some ⟨b, off, none⟩) xs.length cc) ∧ W.cell? ⟨rb, 1, none⟩ = some (.int .i64 k) ∧ W.cell? ⟨b, off + k * 4 + 3, none⟩ = some (.int .i64 x.off))
            ((refine HKP.out _ ?_; with_reducible first | exact gb_drew gb_refl | exact gb_drew (gb_alloc gb_refl _) | exact hgw5))
            (first
              | (refine step_append_lies _ (by rfl) _ _ 27 (by rfl) (rb + 1) 3 i0 _ 1 8 Tryd.underlying27 hi0 hz0' hz1 hz2 rfl (by omega) (.slice A2 os.length q2) os.length (ints os) (by rfl) (OwnsI.alloc HMW.out.2.2.1 _)
                    ⟨W.heap.size, 0, none⟩ 1 1 [.int .i64 x.off] (by rfl) (by rfl) (World.news_of_block (cs := #[.int .i64 x.off]) (t := 3) (fr := (0, 0)) (heap_alloc_last W _)) (by intro u hu; rw [List.mem_singleton.1 hu]; rfl)
                    (by omega) (by simp only [maxLen]; omega) (by omega) (by show rb + 1 ≤ (W.alloc _).heap.size; rw [World.size_alloc]; omega) _ rfl ?_; intro gg cap w5 hown5 hgrow hat hlt; have hgw5 : W.grownBy w5 (Value.slice A2 os.length q2).ownBlock := gb_trans (gb_drew (gb_alloc gb_refl _)) hgrow))
          all_goals
            have hm5 := HMW.out.pushS hown5 (gb_of_drew hgrow) hat
            have hosW := own_lt HMW.out.2.2.1
            have hr5 : IsPrR w5 rb (.slice (some ⟨b, off, none⟩) xs.length cc) k false := (hgw5.block rb hrsW (fun e => by have := (hosW rb e.symm).1; omega)).trans HRW.out
            have hg5 : w0.grownBy w5 (some rb) := gb_ownP HGW.out hgw5 (fun g hg => by have := (hosW g hg).1; omega)
            have hz5 := hg5.size
            have HM5 := Lib.hid hm5
            have HR5 := Lib.hid hr5
            have HG5 := Lib.hid hg5
            clear hm5 hr5 hg5 hosW hown5 hgrow hat hlt hgw5 HKP HMW HRW HGW e0 e1 e3 hrsW hbsW
            go_wp2_with fail
            refine (product_pr w5 rb _ (k, false) xs HR5.out (HRD0.out.gb HG5.out (Nat.le_refl _) (by omega)) hkx (by omega) HENDS.out).mono ?_
            rintro e w6 ⟨v1, v2, he, ho1, ho2, hr6, hg6⟩
            have hin := prodS_in HENDS.out (s := (k, false)) hkx
            have hgt := prodS_gt (xs := xs) (s := (k, false))
            have hyn := prodS_name HTX.out (k, false)
            have hge := prodS_ge xs (k, false)
            have hpb := HPB.out
            obtain ⟨y, s6, hs6⟩ : ∃ y s6, prodS xs (k, false) = (y, s6) := ⟨_, _, rfl⟩
            rw [hs6] at he ho1 ho2 hr6 hin hgt hyn hpb hge
            simp only at he ho1 ho2 hr6 hin hgt hyn hpb hge
            obtain ⟨B1, p1, rfl⟩ := ho1.form
            obtain ⟨B2, p2, rfl⟩ := ho2.form
            subst he
            have hm6 := HM5.out.gb hg6 (Nat.lt_succ_self rb)
            have hg06 := gb_trans HG5.out hg6
            have HM6 := Lib.hid hm6
            have HR6 := Lib.hid hr6
            have HG6 := Lib.hid hg06
            have HO1 := Lib.hid ho1
            have HO2 := Lib.hid ho2
            have HHV := Lib.hid (fun g hg => (own_lt HM5.out.2.1 g hg).2)
            have HHS := Lib.hid (fun g hg => (own_lt HM5.out.2.2.1 g hg).2)
            have HPC := Lib.hid hpb
            have hz6 := hg06.size
            have hml6 : m.length = l.length := by rw [← hm6.1, List.length_map]
            have hmk : m.length ≤ 100000 := by omega
            have HML := Lib.hid hml6
            obtain ⟨i1, hi1, hy0, hy1, hy2⟩ := info_parts info_pr
            clear hm6 hr6 hg06 ho1 ho2 hs6 hpb HPB HR5 hg6 hml6
            go_wp2_with (first
              | ((with_reducible refine wpList_sliceAs (t := 22) 7 (prCells y (.slice B1 y.lens.length p1) (.slice B2 y.prices.length p2)).toArray Tryd.underlying22 pr_info pr_zero ?h1 ?h2 ?hf ?_); (case h1 => decide); (case h2 => decide); (case hf => kernel_rfl); intro arr harr; subst harr)
              | (at_builtin; refine wpList_append_lies _ (by rfl) (.tmp 60) (.tmp 63) 22 (by rfl) (rb + 1) 29 i1 _ 7 96 Tryd.underlying22 hi1 hy0 hy1 hy2 rfl (by omega) (.slice A1 l.length q1) m.length (prsCells m) (by rfl) (World.ownsRow.alloc HM6.out.2.1 _)
                    ⟨w6.heap.size, 0, none⟩ 1 1 (prCells y (.slice B1 y.lens.length p1) (.slice B2 y.prices.length p2)) (by rfl) (by rfl) (World.news_of_block (cs := (prCells y (.slice B1 y.lens.length p1) (.slice B2 y.prices.length p2)).toArray) (t := 29) (fr := (0, 0)) (heap_alloc_last w6 _)) (by intro u hu; exact List.all_eq_true.1 (pr_one y rfl rfl) u hu)
                    (by omega) (by simp only [maxLen]; omega) (by omega) (by rw [World.size_alloc]; omega) _ rfl ?_; intro g7 cap7 w7 hown7 hgrow7 hat7 hlt7))
            have hm7 := HM6.out.pushP HO1.out HO2.out (by omega) HHV.out HHS.out hown7 hgrow7 hat7
            have hov6 := own_lt HM6.out.2.1
            have hgw7 : w6.grownBy w7 (Value.slice A1 l.length q1).ownBlock := gb_trans (gb_alloc gb_refl _) hgrow7
            have hr7 : IsPrR w7 rb (.slice (some ⟨b, off, none⟩) xs.length cc) s6.1 s6.2 := (hgw7.block rb (by omega) (fun e => by have := (hov6 rb e.symm).1; omega)).trans HR6.out
            have hg7 : w0.grownBy w7 (some rb) := gb_ownP HG6.out hgw7 (fun g hg => by have := (hov6 g hg).1; omega)
            have hol := HOL.out
            refine ⟨⟨s6, l ++ [y], os ++ [x.off], _, hin, hr7, hm7, hg7, ?_, ?_, ?_, ?_, n', ?_, HPC.out⟩, ?_⟩
            · rw [List.length_append]; simp only [List.length_cons, List.length_nil]; omega
            · rw [List.length_append, List.length_append, hol]; rfl
            · intro h; have := hgt h; rw [List.length_append]; simp only [List.length_cons, List.length_nil]; omega
            · intro z hz
              rcases List.mem_append.1 hz with hz | hz
              · exact HNM.out z hz
              · rw [List.mem_singleton.1 hz]; omega
            · cases h : s6.2 with
              | true => exact .inl rfl
              | false => have := hgt h; exact .inr (by omega)
            · rw [HPL.out, parLeft_of hr7]
              cases h : s6.2 with
              | true => simp
              | false => have := hgt h; simp only [Bool.false_eq_true, if_false]; omega
  · have heb : (er != 0) = true := by rw [bne_iff_ne]; exact her
    have hrz : r = ([], er, at_) := by rw [← HR.out, parsePr, hsc]; simp [her]
    subst hrz
    clear her hsc ho
    go_wp2_with fail
    go_ret3
    exact ⟨_, rfl, rdPr_nil _ _, HB.out⟩

end Go.Proofs.YtokgonpeolppnaaDoor
