/-
  The contract of the parser's node (package pattern).
-/
import Derived.Test.YtbmcfodhjibooaaDoorPaJ
import Derived.Test.YtbmcfodhjibooaaDoorPaK
namespace Go.Proofs.YtbmcfodhjibooaaDoor
open Go.RowKit Saw Go.Sort

/-- What a parser's method leaves of the memory below Bn: all but its own block. -/
structure Kp (Bn rb : Nat) (w W : World) : Prop where
  os : W.os = w.os
  tape : W.tape = w.tape
  output : W.output = w.output
  size : w.heap.size ≤ W.heap.size
  block : ∀ k, k < Bn → k ≠ rb → W.heap[k]? = w.heap[k]?
theorem Kp.refl (Bn rb : Nat) (w : World) : Kp Bn rb w w := ⟨rfl, rfl, rfl, Nat.le_refl _, fun _ _ _ => rfl⟩
theorem Kp.trans {Bn rb : Nat} {a b c : World} (h : Kp Bn rb a b) (g : Kp Bn rb b c) : Kp Bn rb a c :=
  ⟨g.os.trans h.os, g.tape.trans h.tape, g.output.trans h.output, Nat.le_trans h.size g.size, fun k h1 h2 => (g.block k h1 h2).trans (h.block k h1 h2)⟩
theorem Kp.gb {Bn rb : Nat} {a b : World} {row : Option Nat} (h : a.grownBy b row) (hB : Bn ≤ a.heap.size) (hr : ∀ g, row = some g → g = rb ∨ Bn ≤ g) : Kp Bn rb a b :=
  ⟨h.os, h.tape, h.output, h.size, fun k h1 h2 => h.block k (by omega) (fun e => by rcases hr k e.symm with h | h <;> omega)⟩
theorem Kp.cell {Bn rb g i : Nat} {a : World} {v : Value} (hg : g = rb ∨ Bn ≤ g) : Kp Bn rb a (a.setCell ⟨g, i, none⟩ v) :=
  ⟨rfl, rfl, rfl, by simp [World.setCell], fun k h1 h2 => Below.heap_setCell _ _ _ _ (show k ≠ g by omega)⟩
/-- The parser, its nodes and its lexemes, behind the world w. -/
structure NdAt (w W : World) (rb Bn B : Nat) (lv v : Value) (xs : List Lx) (s : Ps) (acc : List Nd) : Prop where
  ps : IsPs W rb lv v s
  own : W.ownsRow Bn 64 2 v acc.length (ndCells acc)
  kp : Kp Bn rb w W
  lx : Lxs W B lv xs
  big : Bn ≤ W.heap.size
section
variable {w W w5 : World} {rb Bn B : Nat} {lv v : Value} {xs : List Lx} {s s' : Ps} {acc : List Nd}
theorem NdAt.gb (h : NdAt w W rb Bn B lv v xs s acc) (hB : B ≤ rb) (hrb : rb < Bn) (hp : IsPs w5 rb lv v s') (hg : W.grownBy w5 (some rb)) : NdAt w w5 rb Bn B lv v xs s' acc :=
  ⟨hp, h.own.kept hg (.inr fun e => by have := (own_at h.own e).1; omega), h.kp.trans (Kp.gb hg h.big fun g e => .inl (by injection e with e; exact e.symm)), h.lx.kept hg hB (by have := h.big; omega), Nat.le_trans h.big hg.size⟩
theorem NdAt.below (h : NdAt w W rb Bn B lv v xs s acc) (hB : B ≤ rb) (hrb : rb < Bn) (hg : Below W.heap.size W w5) : NdAt w w5 rb Bn B lv v xs s acc :=
  h.gb hB hrb (h.ps.below hg) (gb_below hg)
theorem NdAt.alloc (h : NdAt w W rb Bn B lv v xs s acc) (hB : B ≤ rb) (hrb : rb < Bn) (o : Obj) : NdAt w (W.alloc o) rb Bn B lv v xs s acc :=
  h.gb hB hrb (h.ps.alloc o) (World.grownBy_alloc W o _)
theorem NdAt.trans {w' : World} (h : NdAt w W rb Bn B lv v xs s acc) {v' : Value} {acc' : List Nd} (g : NdAt W w' rb Bn B lv v' xs s' acc') : NdAt w w' rb Bn B lv v' xs s' acc' :=
  ⟨g.ps, g.own, h.kp.trans g.kp, g.lx, g.big⟩
theorem NdAt.slice (h : NdAt w W rb Bn B lv v xs s acc) : ∃ A c, v = .slice A acc.length c := by
  rcases h.own.2 with ⟨rfl, h0⟩ | ⟨g, cap, cur, rfl, _⟩
  · rw [h0]; exact ⟨_, _, rfl⟩
  · exact ⟨_, _, rfl⟩
theorem NdAt.box (h : NdAt w W rb Bn B lv v xs s acc) (hB : B ≤ rb) (hrb : rb < Bn) {k p : Int} (hp : IsPs w5 rb lv v s') (hg : (W.alloc (.cells #[.int .i64 k, .int .i64 0] 64)).grownBy w5 (some rb)) :
    NdAt w (w5.setCell ⟨W.heap.size, 1, none⟩ (.int .i64 p)) rb Bn B lv v xs s' acc ∧ (w5.setCell ⟨W.heap.size, 1, none⟩ (.int .i64 p)).heap[W.heap.size]? = some (.cells #[.int .i64 k, .int .i64 p] 64 (0, 0)) := by
  have h4 := (h.alloc hB hrb (.cells #[.int .i64 k, .int .i64 0] 64)).gb hB hrb hp hg
  have hN : w5.heap[W.heap.size]? = some (.cells #[.int .i64 k, .int .i64 0] 64 (0, 0)) :=
    (hg.block _ (by rw [World.size_alloc]; omega) (fun e => by injection e; have := h.big; omega)).trans (heap_alloc_last W _)
  have hgs : w5.grownBy (w5.setCell ⟨W.heap.size, 1, none⟩ (.int .i64 p)) (some W.heap.size) := ⟨rfl, rfl, rfl, by simp [World.setCell], fun k hk hne => Below.heap_setCell _ _ _ _ (fun e => hne (by rw [e]))⟩
  have hrbW : rb < W.heap.size := by have := h.big; omega
  refine ⟨⟨(hgs.block rb (by have := h4.big; omega) (fun e => by injection e; omega)).trans h4.ps, h4.own.kept hgs (.inr fun e => ?_), h4.kp.trans (Kp.gb hgs h4.big fun g e => .inr (by injection e with e; have := h.big; omega)), Rd.keep h4.lx fun q hq => World.cell?_of_block (a := q) (hgs.block q.block (by have := h4.big; omega) (fun e => by injection e; have := h.big; omega)), Nat.le_trans h4.big hgs.size⟩, ?_⟩
  · obtain ⟨_, cur, hc⟩ := own_at h.own e
    have := (Array.getElem?_eq_some_iff.1 hc).1
    omega
  · rw [setCell_eq_setRow w5 _ 1 _ _ _ _ hN, setRow_heap _ _ _ _ _ _ hN]
    rfl
theorem NdAt.rbox (h : NdAt w W rb Bn B lv v xs s acc) (_hB : B ≤ rb) (hrb : rb < Bn) {k : Int} (hg : (W.alloc (.cells #[.int .i64 k, .int .i64 0] 64)).grownBy w5 (some rb)) :
    w5.heap[W.heap.size]? = some (.cells #[.int .i64 k, .int .i64 0] 64 (0, 0)) :=
  (hg.block _ (by rw [World.size_alloc]; omega) (fun e => by injection e; have := h.big; omega)).trans (heap_alloc_last W _)
theorem NdAt.next {o : Obj} (h : NdAt w W rb Bn B lv v xs s acc) : (W.alloc o).drew.ownsRow Bn 64 2 v acc.length (ndCells acc) := World.ownsRow.alloc h.own o
theorem NdAt.ps7 {o : Obj} (h : NdAt w W rb Bn B lv v xs s acc) (hrb : rb < Bn) (hg : (W.alloc o).drew.grownBy w5 v.ownBlock) : IsPs w5 rb lv v s :=
  (hg.block rb (by show rb < (W.alloc o).heap.size; rw [World.size_alloc]; have := h.big; omega) (fun e => by have := (own_at h.own e.symm).1; omega)).trans (h.ps.alloc o)
theorem NdAt.c7 {o : Obj} (h : NdAt w W rb Bn B lv v xs s acc) (hrb : rb < Bn) (hg : (W.alloc o).drew.grownBy w5 v.ownBlock) : w5.cell? ⟨rb, 4, none⟩ = some v ∧ w5.frozen? ⟨rb, 4, none⟩ = false :=
  ⟨(h.ps7 hrb hg).cells.2.2.2.2.1, (h.ps7 hrb hg).cells.2.2.2.2.2.1 4⟩
theorem NdAt.app {o : Obj} {v' : Value} {k p : Int} (h : NdAt w W rb Bn B lv v xs s acc) (hB : B ≤ rb) (hrb : rb < Bn) (hg : (W.alloc o).drew.grownBy w5 v.ownBlock) (hown : w5.ownsRow Bn 64 2 v' (acc.length + 1) (ndCells acc ++ [.int .i64 k, .int .i64 p])) :
    NdAt w (w5.setCell ⟨rb, 4, none⟩ v') rb Bn B lv v' xs s (acc ++ [⟨k, p⟩]) := by
  have hgs : w5.grownBy (w5.setCell ⟨rb, 4, none⟩ v') (some rb) := ⟨rfl, rfl, rfl, by simp [World.setCell], fun j _ hne => Below.heap_setCell _ _ _ _ (fun e => hne (by rw [e]))⟩
  have hga : W.grownBy (W.alloc o).drew none := gb_drew (World.grownBy_alloc W o none)
  have hz5 := hg.size
  have hza : (W.alloc o).drew.heap.size = W.heap.size + 1 := World.size_alloc W o
  have hb := h.big
  have hown' : w5.ownsRow Bn 64 2 v' (acc ++ ([⟨k, p⟩] : List Nd)).length (ndCells (acc ++ ([⟨k, p⟩] : List Nd))) := by
    rw [List.length_append, ndCells_app]
    exact hown
  refine ⟨(h.ps7 hrb hg).setN v', hown'.kept hgs (.inr fun e => by have := (own_at hown' e).1; omega), ((h.kp.trans (Kp.gb hga hb nofun)).trans (Kp.gb hg (by omega) fun g e => .inr (own_at h.own e).1)).trans (Kp.gb hgs (by omega) fun g e => .inl (by injection e with e; exact e.symm)), Rd.keep h.lx fun q hq => ?_, by have := hgs.size; omega⟩
  exact World.cell?_of_block (a := q) (((hgs.block q.block (by omega) (fun e => by injection e; omega)).trans (hg.block q.block (by omega) (fun e => by have := (own_at h.own e.symm).1; omega))).trans (hga.block q.block (by omega) nofun))
end
theorem NdAt.here {w W : World} {rb Bn B : Nat} {lv v : Value} {xs : List Lx} {s : Ps} {acc : List Nd} (h : NdAt w W rb Bn B lv v xs s acc) : NdAt W W rb Bn B lv v xs s acc := ⟨h.ps, h.own, Kp.refl _ _ _, h.lx, h.big⟩
theorem nd_mem2 (k p : Int) : ∀ u ∈ ([.int .i64 k, .int .i64 p] : List Value), u.oneCell' = true := by
  intro u hu
  simp only [List.mem_cons, List.not_mem_nil, or_false] at hu
  obtain rfl | rfl := hu <;> rfl
theorem szq {W : World} {o : Obj} : (W.alloc o).drew.heap.size = W.heap.size + 1 := World.size_alloc W o
def NdPost (w : World) (rb Bn B : Nat) (lv : Value) (xs : List Lx) (r : Ps × List Nd) (e : Ending) (w' : World) : Prop :=
  (∃ u, e = .returned u) ∧ r.2.length ≤ 127 ∧ ∃ v, NdAt w w' rb Bn B lv v xs r.1 r.2
theorem try0 {xs : List Lx} {s : Ps} {k : Int} {t : List UInt8} (h : s.e = 0) : tryQ xs s k t = lxIs (lxAt xs s.k) k t ∧ trySt xs s k t = if lxIs (lxAt xs s.k) k t = true then ⟨s.k + 1, 0, s.off⟩ else s := by
  have h1 : tryQ xs s k t = lxIs (lxAt xs s.k) k t := by rw [tryQ, h]; simp
  rw [trySt, h1, h]
  exact ⟨rfl, rfl⟩

def NodeOk (xs : List Lx) (rb Bn B : Nat) (lv : Value) (f : Nat) : Prop :=
  ∀ (lev : Int) (s : Ps) (acc : List Nd) (w : World) (v : Value), 65 ≤ lev + f → 1 ≤ lev → lev ≤ 65 → s.k < xs.length → acc.length ≤ 127 → NdAt w w rb Bn B lv v xs s acc →
      Calls Tryd.prog 66 #[.pointer (some ⟨rb, 0, none⟩), .int .i64 lev] w (NdPost w rb Bn B lv xs (nodeQ xs f lev s acc))

set_option maxRecDepth 100000 in
set_option maxHeartbeats 8000000 in
theorem node_step (xs : List Lx) (hend : LxEnds xs) (hk : xs.length < 1000000) (hnm : ∀ x ∈ xs, 0 ≤ x.num ∧ x.num ≤ 1099511627776) (rb Bn B : Nat) (lv : Value) (hB : B ≤ rb) (hrb : rb < Bn) (f : Nat) (ih : ∀ f', f = f' + 1 → NodeOk xs rb Bn B lv f') : NodeOk xs rb Bn B lv f := by
  intro lev s acc w v hf hl1 hl65 hsk hal hat
  have HEND := Lib.hid hend
  have HNM := Lib.hid hnm
  have HIH := Lib.hid ih
  have HS0 := Lib.hid hat
  obtain ⟨R, hR⟩ : ∃ R, nodeQ xs f lev s acc = R := ⟨_, rfl⟩
  obtain ⟨x, hx⟩ : ∃ x, lxAt xs s.k = x := ⟨_, rfl⟩
  obtain ⟨off, hoff⟩ : ∃ off, x.off = off := ⟨_, rfl⟩
  obtain ⟨s1, hs1⟩ : ∃ s1, nd1 xs s = s1 := ⟨_, rfl⟩
  have hs1k : s1.k < xs.length := by rw [← hs1]; exact takeQ_in hend (by decide) hsk
  have h3 : nd3 xs lev acc.length s = if 64 < lev then failQ (if 127 ≤ acc.length then failQ s1 4 off else s1) 28 off else (if 127 ≤ acc.length then failQ s1 4 off else s1) := by rw [nd3, nd2, hs1, hx, hoff]
  have HNX := Lib.hid (show Calls Tryd.prog 62 #[.pointer (some ⟨rb, 0, none⟩)] w (NextPo w x) by
    have := next_ps w rb B lv v s xs hat.ps hat.lx hB hsk hk
    rw [hx] at this
    exact this)
  have HTK := Lib.hid (fun (W : World) (u : Value) (hr : IsPs W rb lv u s) (hl : Lxs W B lv xs) => (show Calls Tryd.prog 63 #[.pointer (some ⟨rb, 0, none⟩), .int .i64 3, .string ⟨#[123]⟩] W (PsDone W rb lv u s1) by
    have := take_ps W rb B lv u s xs 3 ⟨#[123]⟩ hr hl hB hsk hk
    rw [show bts ⟨#[123]⟩ = [123] from rfl, show takeQ xs s 3 [123] = s1 from hs1] at this
    exact this))
  have HBAD := Lib.hid (show nd3 xs lev acc.length s = (if 64 < lev then failQ (if 127 ≤ acc.length then failQ s1 4 off else s1) 28 off else (if 127 ≤ acc.length then failQ s1 4 off else s1)) → (nd3 xs lev acc.length s).e ≠ 0 → R = (nd3 xs lev acc.length s, acc) from fun _ h => by rw [← hR]; exact nodeQ_bad rfl h)
  have HRR := Lib.hid hR
  have H3 := Lib.hid h3
  have HX := Lib.hid hoff
  rw [hR]
  obtain ⟨A, c, hv⟩ := hat.slice
  subst hv
  have F3 := lx_f3
  clear hend hnm ih hat hR hx hoff hs1 h3
  go_enter Tryd.func66, Tryd.ntmps66
  go_wp2_with fail
  refine HNX.out.mono ?_
  rintro e w1 ⟨he, hb1⟩
  rw [HX.out] at he
  subst he
  have HS1 := Lib.hid (HS0.out.below hB hrb hb1)
  clear hb1
  go_wp2_with fail
  refine (HTK.out w1 _ HS1.out.ps HS1.out.lx).mono ?_
  rintro e w2 ⟨⟨u2, he⟩, hi2, hg2⟩
  subst he
  have HS2 := Lib.hid (HS1.out.gb hB hrb hi2 hg2)
  clear hi2 hg2
  obtain ⟨c0, c1, c2, c3, c4, cf, hrs⟩ := HS2.out.ps.cells
  by_cases hfull : 127 ≤ acc.length
  · have hfb : (acc.length : Int) = 127 := by omega
    have hR0 : R = (if 64 < lev then failQ (failQ s1 4 off) 28 off else failQ s1 4 off, acc) := by
      have h3 := H3.out
      rw [if_pos hfull] at h3
      rw [← h3]
      exact HBAD.out (H3.out) (by rw [h3]; split <;> exact failQ_e (by decide))
    have hse : (failQ s1 4 off).e ≠ 0 := failQ_e (by decide)
    have hR : R = (failQ s1 4 off, acc) := by
      rw [hR0]
      split
      · rw [failQ_bad hse]
      · rfl
    obtain ⟨s2, hs2⟩ : ∃ s2, failQ s1 4 off = s2 := ⟨_, rfl⟩
    have hs3 : failQ s2 28 off = s2 := by rw [← hs2]; exact failQ_bad hse _ _
    rw [hs2] at hR hse
    have HS2' := Lib.hid hs2
    have HS3' := Lib.hid hs3
    have hfe : (s2.e != 0) = true := by rw [bne_iff_ne]; exact hse
    clear hR0
    subst hR
    clear hs2 hs3 hse
    go_wp2_with fail
    refine (fail_ps w2 rb lv _ s1 4 off HS2.out.ps).mono ?_
    rintro e w3 ⟨⟨u3, he⟩, hi3, hg3⟩
    rw [HS2'.out] at hi3
    subst he
    have HS3 := Lib.hid (HS2.out.gb hB hrb hi3 hg3)
    clear hi3 hg3 c0 c1 c2 c3 c4 cf hrs
    obtain ⟨c0, c1, c2, c3, c4, cf, hrs⟩ := HS3.out.ps.cells
    by_cases hdp : 64 < lev
    · go_wp2_with fail
      refine (fail_ps w3 rb lv _ s2 28 off HS3.out.ps).mono ?_
      rintro e w4 ⟨⟨u4, he⟩, hi4, hg4⟩
      rw [HS3'.out] at hi4
      subst he
      have HS4 := Lib.hid (HS3.out.gb hB hrb hi4 hg4)
      clear hi4 hg4 c0 c1 c2 c3 c4 cf hrs
      obtain ⟨c0, c1, c2, c3, c4, cf, hrs⟩ := HS4.out.ps.cells
      go_wp2_with fail
      refine bodyPost_ret (results_none rfl _ _ _) rfl ⟨⟨_, rfl⟩, hal, _, HS4.out⟩
    · go_wp2_with fail
      refine bodyPost_ret (results_none rfl _ _ _) rfl ⟨⟨_, rfl⟩, hal, _, HS3.out⟩
  · have hfb : ¬ (127 : Int) ≤ acc.length := by omega
    by_cases hdp : 64 < lev
    · have hse : (failQ s1 28 off).e ≠ 0 := failQ_e (by decide)
      have hR : R = (failQ s1 28 off, acc) := by
        have h3 := H3.out
        rw [if_neg hfull, if_pos hdp] at h3
        rw [← h3]
        exact HBAD.out (H3.out) (by rw [h3]; exact hse)
      obtain ⟨s2, hs2⟩ : ∃ s2, failQ s1 28 off = s2 := ⟨_, rfl⟩
      rw [hs2] at hR hse
      have HS2' := Lib.hid hs2
      have hfe : (s2.e != 0) = true := by rw [bne_iff_ne]; exact hse
      subst hR
      clear hs2 hse
      go_wp2_with fail
      refine (fail_ps w2 rb lv _ s1 28 off HS2.out.ps).mono ?_
      rintro e w3 ⟨⟨u3, he⟩, hi3, hg3⟩
      rw [HS2'.out] at hi3
      subst he
      have HS3 := Lib.hid (HS2.out.gb hB hrb hi3 hg3)
      clear hi3 hg3 c0 c1 c2 c3 c4 cf hrs
      obtain ⟨c0, c1, c2, c3, c4, cf, hrs⟩ := HS3.out.ps.cells
      go_wp2_with fail
      refine bodyPost_ret (results_none rfl _ _ _) rfl ⟨⟨_, rfl⟩, hal, _, HS3.out⟩
    · have h3 : nd3 xs lev acc.length s = s1 := by rw [H3.out, if_neg hdp, if_neg hfull]
      by_cases hse : s1.e = 0
      · obtain ⟨f', hff⟩ : ∃ f', f = f' + 1 := ⟨f - 1, by omega⟩
        have HOK := Lib.hid (HIH.out f' hff)
        subst hff
        obtain ⟨x3, hx3⟩ : ∃ x3, lxAt xs s1.k = x3 := ⟨_, rfl⟩
        obtain ⟨s2, hs2⟩ : ∃ s2 : Ps, (⟨s1.k + 1, 0, s1.off⟩ : Ps) = s2 := ⟨_, rfl⟩
        have HTRY := Lib.hid (fun (t : ByteArray) (W : World) (h : NdAt w W rb Bn B lv (.slice A acc.length c) xs s1 acc) => (show Calls Tryd.prog 90 #[.pointer (some ⟨rb, 0, none⟩), .int .i64 1, .string t] W (PsPost W rb lv (.slice A acc.length c) (if lxIs x3 1 (bts t) = true then s2 else s1) (.bool (lxIs x3 1 (bts t)))) by
          have := try_ps W rb B lv _ s1 xs 1 t h.ps h.lx hB hs1k hk
          rw [(try0 hse).1, (try0 hse).2, hx3, hs2] at this
          exact this))
        have HSK := Lib.hid (show ∀ t, lxIs x3 1 t = true → s2.k < xs.length from fun t ht => by
          have := trySt_in HEND.out (k := 1) (t := t) (by decide) hs1k
          rw [(try0 hse).2, hx3, ht, if_pos rfl, hs2] at this
          exact this)
        have HNX3 := Lib.hid (fun (W : World) (h : NdAt w W rb Bn B lv (.slice A acc.length c) xs s1 acc) => (show Calls Tryd.prog 62 #[.pointer (some ⟨rb, 0, none⟩)] W (NextPo W x3) by
          have := next_ps W rb B lv _ s1 xs h.ps h.lx hB hs1k hk
          rw [hx3] at this
          exact this))
        have HLEAF := Lib.hid (fun (k p : Int) (s4 : Ps) (h1 : kindQ x3 = some k) (h2 : ripP k = false) (h4 : posQ xs k s2 = (p, s4)) => (show R = (takeQ xs s4 3 [125], acc ++ [⟨k, p⟩]) from HRR.out.symm.trans (nodeQ_leaf h3 hse (hx3.symm ▸ h1) h2 (hs2.symm ▸ h4))))
        have HRIP := Lib.hid (fun (k p : Int) (s4 s5 s6 : Ps) (acc5 acc6 : List Nd) (h1 : kindQ x3 = some k) (h2 : ripP k = true) (h4 : posQ xs k s2 = (p, s4)) (h5 : nodeQ xs f' (lev + 1) s4 (acc ++ [⟨k, p⟩]) = (s5, acc5)) (h6 : nodeQ xs f' (lev + 1) s5 acc5 = (s6, acc6)) => (show R = (takeQ xs s6 3 [125], acc6) from HRR.out.symm.trans (nodeQ_rip h3 hse (hx3.symm ▸ h1) h2 (hs2.symm ▸ h4) h5 h6)))
        have HNONE := Lib.hid (fun (h1 : kindQ x3 = none) => (show R = (failQ s1 5 x3.off, acc) from HRR.out.symm.trans (by rw [nodeQ_none h3 hse (hx3.symm ▸ h1), hx3])))
        have hfe : (s1.e != 0) = false := by rw [bne_eq_false_iff_eq]; exact hse
        have hal6 : acc.length < 127 := by omega
        obtain ⟨i0, hi0, hq0, hq1, hq2⟩ := info_parts nd_infoE
        have HQ := Lib.hid hi0
        clear HRR H3 HBAD HNX HTK HIH h3 hse hx3 hs2 hfull
        obtain ⟨b1, hb1⟩ : ∃ b, lxIs x3 1 wasteW = b := ⟨_, rfl⟩
        obtain ⟨b2, hb2⟩ : ∃ b, lxIs x3 1 boardW = b := ⟨_, rfl⟩
        obtain ⟨b3, hb3⟩ : ∃ b, lxIs x3 1 [120] = b := ⟨_, rfl⟩
        obtain ⟨b4, hb4⟩ : ∃ b, lxIs x3 1 [121] = b := ⟨_, rfl⟩
        have HKD := Lib.hid (show kindQ x3 = if b1 = true then some 0 else if b2 = true then some 1 else if b3 = true then some 2 else if b4 = true then some 3 else none by rw [kindQ, hb1, hb2, hb3, hb4])
        have HBB1 := Lib.hid hb1
        have HBB2 := Lib.hid hb2
        have HBB3 := Lib.hid hb3
        have HBB4 := Lib.hid hb4
        clear hb1 hb2 hb3 hb4
        go_wp2_with fail
        refine (HTRY.out ⟨#[119, 97, 115, 116, 101]⟩ w2 HS2.out).mono ?_
        rintro e wt1 ⟨he, hi, hg⟩
        rw [show bts ⟨#[119, 97, 115, 116, 101]⟩ = wasteW from rfl, HBB1.out] at he hi
        subst he
        cases b1 with
        | true =>
          rw [if_pos rfl] at hi
          have HT1 := Lib.hid (HS2.out.gb hB hrb hi hg)
          clear hi hg c0 c1 c2 c3 c4 cf hrs
          obtain ⟨c0, c1, c2, c3, c4, cf, hrs⟩ := HT1.out.ps.cells
          have hs2k : s2.k < xs.length := HSK.out _ HBB1.out
          have HK := Lib.hid (show kindQ x3 = some 0 from HKD.out)
          have HR := Lib.hid (HLEAF.out 0 0 s2 HK.out rfl rfl)
          have HN := Lib.hid (heap_alloc_last wt1 (.cells #[.int .i64 0, .int .i64 0] 64))
          have HS8 := Lib.hid (HT1.out.alloc hB hrb (.cells #[.int .i64 0, .int .i64 0] 64))
          clear c0 c1 c2 c3 c4 cf hrs
          go_wp2_with fail
          obtain ⟨N, hN⟩ : ∃ N, wt1.heap.size = N := ⟨_, rfl⟩
          obtain ⟨W8, hW8⟩ : ∃ W8, wt1.alloc (.cells #[.int .i64 0, .int .i64 0] 64) = W8 := ⟨_, rfl⟩
          rw [hW8, hN]
          rw [hW8] at HS8
          rw [hW8, hN] at HN
          clear hW8 hN
          obtain ⟨e0, e1⟩ := cells2 HN.out
          obtain ⟨c0, c1, c2, c3, c4, cf, hrs⟩ := HS8.out.ps.cells
          have hrz : rb < W8.heap.size := hrs
          have hNz : N < W8.heap.size := (Array.getElem?_eq_some_iff.1 HN.out).1
          have hNr : rb < N ∨ N < rb ∨ True := .inr (.inr trivial)
          clear hNr
          go_region_law
            ((refine step_append_lies _ (by rfl) _ _ 26 (by rfl) Bn 64 i0 _ 2 16 Tryd.underlying26 hi0 hq0 hq1 hq2 rfl (by omega) (.slice A acc.length c) acc.length (ndCells acc) (by rfl) (NdAt.next HS8.out) ⟨W8.heap.size, 0, none⟩ 1 1 [.int .i64 0, .int .i64 0] (by rfl) (by rfl) (World.news_of_block (cs := #[.int .i64 0, .int .i64 0]) (t := 64) (fr := (0, 0)) (heap_alloc_last W8 _)) (nd_mem2 0 0) (by omega) (by simp only [maxLen]; omega) (by omega) (by rw [szq]; have := HS8.out.big; omega) (W8.heap.size + 1) szq ?_; intro gg cap w9 hown9 hgrow hat hlt; obtain ⟨c29, f29⟩ := HS8.out.c7 hrb hgrow))
          all_goals
            have HS10 := Lib.hid (HS8.out.app hB hrb (k := 0) (p := 0) hgrow hown9)
            obtain ⟨W10, hW10⟩ : ∃ W10, w9.setCell ⟨rb, 4, none⟩ (.slice (some ⟨gg, 0, none⟩) (acc.length + 1) cap) = W10 := ⟨_, rfl⟩
            rw [hW10] at HS10
            rw [hW10]
            clear hown9 hgrow hat hlt c29 f29 hW10 c0 c1 c2 c3 c4 cf hrs e0 e1 HN HS8
            go_wp2_with fail
            refine (isRip_any 0 W10).mono ?_
            rintro e wq ⟨he, hq⟩
            rw [show ripP 0 = false from rfl] at he
            subst he
            rw [hq]
            clear hq
            go_wp2_with fail
            refine (take_ps W10 rb B lv _ s2 xs 3 ⟨#[125]⟩ HS10.out.ps HS10.out.lx hB hs2k hk).mono ?_
            rintro e w13 ⟨⟨u13, he⟩, hi13, hg13⟩
            subst he
            have HS13 := Lib.hid (HS10.out.gb hB hrb hi13 hg13)
            clear hi13 hg13
            go_wp2_with fail
            exact bodyPost_ret (results_none rfl _ _ _) rfl (by rw [HR.out]; exact ⟨⟨_, rfl⟩, by rw [List.length_append]; exact hal6, _, HS13.out⟩)
        | false =>
          rw [if_neg Bool.false_ne_true] at hi
          have HT1 := Lib.hid (HS2.out.gb hB hrb hi hg)
          clear hi hg c0 c1 c2 c3 c4 cf hrs
          obtain ⟨c0, c1, c2, c3, c4, cf, hrs⟩ := HT1.out.ps.cells
          go_wp2_with fail
          refine (HTRY.out ⟨#[98, 111, 97, 114, 100]⟩ wt1 HT1.out).mono ?_
          rintro e wt2 ⟨he, hi, hg⟩
          rw [show bts ⟨#[98, 111, 97, 114, 100]⟩ = boardW from rfl, HBB2.out] at he hi
          subst he
          cases b2 with
          | true =>
            rw [if_pos rfl] at hi
            have HT2 := Lib.hid (HT1.out.gb hB hrb hi hg)
            clear hi hg c0 c1 c2 c3 c4 cf hrs
            obtain ⟨c0, c1, c2, c3, c4, cf, hrs⟩ := HT2.out.ps.cells
            have hs2k : s2.k < xs.length := HSK.out _ HBB2.out
            have HK := Lib.hid (show kindQ x3 = some 1 from HKD.out)
            obtain ⟨⟨p, s4⟩, hpr⟩ : ∃ pr, numQ xs s2 (loP 1) (hiP 1) = pr := ⟨_, rfl⟩
            have hs4k : s4.k < xs.length := by
              have := numQ_in HEND.out (lo := loP 1) (hi := hiP 1) hs2k
              rw [hpr] at this
              exact this
            have HPR := Lib.hid hpr
            have HSB := Lib.hid (HT2.out.alloc hB hrb (.cells #[.int .i64 1, .int .i64 0] 64))
            clear hpr c0 c1 c2 c3 c4 cf hrs
            go_wp2_with fail
            refine (limits_any 1 _).mono ?_
            rintro e wq ⟨he, hq⟩
            subst he
            subst hq
            go_wp2_with fail
            refine (number_ps _ rb B lv _ s2 xs (loP 1) (hiP 1) HSB.out.ps HSB.out.lx hB HEND.out hs2k hk HNM.out).mono ?_
            rintro e w7 ⟨he, hi7, hg7⟩
            rw [HPR.out] at he hi7
            subst he
            have HB7 := Lib.hid (HT2.out.box hB hrb (p := p) hi7 hg7)
            have HX7 := Lib.hid (HT2.out.rbox hB hrb hg7)
            obtain ⟨d0, d1⟩ := cells2 HX7.out
            have df := frz HX7.out
            have HN := Lib.hid HB7.out.2
            have HS8 := Lib.hid HB7.out.1
            clear hi7 hg7
            go_wp2_with fail
            obtain ⟨N, hN⟩ : ∃ N, wt2.heap.size = N := ⟨_, rfl⟩
            obtain ⟨W8, hW8⟩ : ∃ W8, w7.setCell ⟨wt2.heap.size, 1, none⟩ (.int .i64 p) = W8 := ⟨_, rfl⟩
            clear d0 d1 df HB7 HX7 HSB
            rw [hW8, hN]
            rw [hW8] at HS8
            rw [hW8, hN] at HN
            clear hW8 hN
            obtain ⟨e0, e1⟩ := cells2 HN.out
            obtain ⟨c0, c1, c2, c3, c4, cf, hrs⟩ := HS8.out.ps.cells
            have hrz : rb < W8.heap.size := hrs
            have hNz : N < W8.heap.size := (Array.getElem?_eq_some_iff.1 HN.out).1
            have hNr : rb < N ∨ N < rb ∨ True := .inr (.inr trivial)
            clear hNr
            go_region_law
              ((refine step_append_lies _ (by rfl) _ _ 26 (by rfl) Bn 64 i0 _ 2 16 Tryd.underlying26 hi0 hq0 hq1 hq2 rfl (by omega) (.slice A acc.length c) acc.length (ndCells acc) (by rfl) (NdAt.next HS8.out) ⟨W8.heap.size, 0, none⟩ 1 1 [.int .i64 1, .int .i64 p] (by rfl) (by rfl) (World.news_of_block (cs := #[.int .i64 1, .int .i64 p]) (t := 64) (fr := (0, 0)) (heap_alloc_last W8 _)) (nd_mem2 1 p) (by omega) (by simp only [maxLen]; omega) (by omega) (by rw [szq]; have := HS8.out.big; omega) (W8.heap.size + 1) szq ?_; intro gg cap w9 hown9 hgrow hat hlt; obtain ⟨c29, f29⟩ := HS8.out.c7 hrb hgrow))
            all_goals
              have HS10 := Lib.hid (HS8.out.app hB hrb (k := 1) (p := p) hgrow hown9)
              obtain ⟨W10, hW10⟩ : ∃ W10, w9.setCell ⟨rb, 4, none⟩ (.slice (some ⟨gg, 0, none⟩) (acc.length + 1) cap) = W10 := ⟨_, rfl⟩
              rw [hW10] at HS10
              rw [hW10]
              clear hown9 hgrow hat hlt c29 f29 hW10 c0 c1 c2 c3 c4 cf hrs e0 e1 HN HS8
              go_wp2_with fail
              refine (isRip_any 1 W10).mono ?_
              rintro e wq ⟨he, hq⟩
              rw [show ripP 1 = false from rfl] at he
              subst he
              rw [hq]
              clear hq
              have HR := Lib.hid (HLEAF.out 1 p s4 HK.out rfl HPR.out)
              go_wp2_with fail
              refine (take_ps W10 rb B lv _ s4 xs 3 ⟨#[125]⟩ HS10.out.ps HS10.out.lx hB hs4k hk).mono ?_
              rintro e w13 ⟨⟨u13, he⟩, hi13, hg13⟩
              subst he
              have HS13 := Lib.hid (HS10.out.gb hB hrb hi13 hg13)
              clear hi13 hg13
              go_wp2_with fail
              exact bodyPost_ret (results_none rfl _ _ _) rfl (by rw [HR.out]; exact ⟨⟨_, rfl⟩, by rw [List.length_append]; exact hal6, _, HS13.out⟩)
          | false =>
            rw [if_neg Bool.false_ne_true] at hi
            have HT2 := Lib.hid (HT1.out.gb hB hrb hi hg)
            clear hi hg c0 c1 c2 c3 c4 cf hrs
            obtain ⟨c0, c1, c2, c3, c4, cf, hrs⟩ := HT2.out.ps.cells
            go_wp2_with fail
            refine (HTRY.out ⟨#[120]⟩ wt2 HT2.out).mono ?_
            rintro e wt3 ⟨he, hi, hg⟩
            rw [show bts ⟨#[120]⟩ = [120] from rfl, HBB3.out] at he hi
            subst he
            cases b3 with
            | true =>
              rw [if_pos rfl] at hi
              have HT3 := Lib.hid (HT2.out.gb hB hrb hi hg)
              clear hi hg c0 c1 c2 c3 c4 cf hrs
              obtain ⟨c0, c1, c2, c3, c4, cf, hrs⟩ := HT3.out.ps.cells
              have hs2k : s2.k < xs.length := HSK.out _ HBB3.out
              have HK := Lib.hid (show kindQ x3 = some 2 from HKD.out)
              obtain ⟨⟨p, s4⟩, hpr⟩ : ∃ pr, numQ xs s2 (loP 2) (hiP 2) = pr := ⟨_, rfl⟩
              have hs4k : s4.k < xs.length := by
                have := numQ_in HEND.out (lo := loP 2) (hi := hiP 2) hs2k
                rw [hpr] at this
                exact this
              have HPR := Lib.hid hpr
              have HSB := Lib.hid (HT3.out.alloc hB hrb (.cells #[.int .i64 2, .int .i64 0] 64))
              clear hpr c0 c1 c2 c3 c4 cf hrs
              go_wp2_with fail
              refine (limits_any 2 _).mono ?_
              rintro e wq ⟨he, hq⟩
              subst he
              subst hq
              go_wp2_with fail
              refine (number_ps _ rb B lv _ s2 xs (loP 2) (hiP 2) HSB.out.ps HSB.out.lx hB HEND.out hs2k hk HNM.out).mono ?_
              rintro e w7 ⟨he, hi7, hg7⟩
              rw [HPR.out] at he hi7
              subst he
              have HB7 := Lib.hid (HT3.out.box hB hrb (p := p) hi7 hg7)
              have HX7 := Lib.hid (HT3.out.rbox hB hrb hg7)
              obtain ⟨d0, d1⟩ := cells2 HX7.out
              have df := frz HX7.out
              have HN := Lib.hid HB7.out.2
              have HS8 := Lib.hid HB7.out.1
              clear hi7 hg7
              go_wp2_with fail
              obtain ⟨N, hN⟩ : ∃ N, wt3.heap.size = N := ⟨_, rfl⟩
              obtain ⟨W8, hW8⟩ : ∃ W8, w7.setCell ⟨wt3.heap.size, 1, none⟩ (.int .i64 p) = W8 := ⟨_, rfl⟩
              clear d0 d1 df HB7 HX7 HSB
              rw [hW8, hN]
              rw [hW8] at HS8
              rw [hW8, hN] at HN
              clear hW8 hN
              obtain ⟨e0, e1⟩ := cells2 HN.out
              obtain ⟨c0, c1, c2, c3, c4, cf, hrs⟩ := HS8.out.ps.cells
              have hrz : rb < W8.heap.size := hrs
              have hNz : N < W8.heap.size := (Array.getElem?_eq_some_iff.1 HN.out).1
              have hNr : rb < N ∨ N < rb ∨ True := .inr (.inr trivial)
              clear hNr
              go_region_law
                ((refine step_append_lies _ (by rfl) _ _ 26 (by rfl) Bn 64 i0 _ 2 16 Tryd.underlying26 hi0 hq0 hq1 hq2 rfl (by omega) (.slice A acc.length c) acc.length (ndCells acc) (by rfl) (NdAt.next HS8.out) ⟨W8.heap.size, 0, none⟩ 1 1 [.int .i64 2, .int .i64 p] (by rfl) (by rfl) (World.news_of_block (cs := #[.int .i64 2, .int .i64 p]) (t := 64) (fr := (0, 0)) (heap_alloc_last W8 _)) (nd_mem2 2 p) (by omega) (by simp only [maxLen]; omega) (by omega) (by rw [szq]; have := HS8.out.big; omega) (W8.heap.size + 1) szq ?_; intro gg cap w9 hown9 hgrow hat hlt; obtain ⟨c29, f29⟩ := HS8.out.c7 hrb hgrow))
              all_goals
                have HS10 := Lib.hid (HS8.out.app hB hrb (k := 2) (p := p) hgrow hown9)
                obtain ⟨W10, hW10⟩ : ∃ W10, w9.setCell ⟨rb, 4, none⟩ (.slice (some ⟨gg, 0, none⟩) (acc.length + 1) cap) = W10 := ⟨_, rfl⟩
                rw [hW10] at HS10
                rw [hW10]
                clear hown9 hgrow hat hlt c29 f29 hW10 c0 c1 c2 c3 c4 cf hrs e0 e1 HN HS8
                go_wp2_with fail
                refine (isRip_any 2 W10).mono ?_
                rintro e wq ⟨he, hq⟩
                rw [show ripP 2 = true from rfl] at he
                subst he
                rw [hq]
                clear hq
                have hlen7 : (acc ++ ([⟨2, p⟩] : List Nd)).length ≤ 127 := by rw [List.length_append]; exact hal6
                have HL7 := Lib.hid hlen7
                obtain ⟨acc4, ha4⟩ : ∃ a, acc ++ ([⟨2, p⟩] : List Nd) = a := ⟨_, rfl⟩
                rw [ha4] at HL7 HS10
                obtain ⟨⟨s5, acc5⟩, h5⟩ : ∃ r, nodeQ xs f' (lev + 1) s4 acc4 = r := ⟨_, rfl⟩
                obtain ⟨⟨s6, acc6⟩, h6⟩ : ∃ r, nodeQ xs f' (lev + 1) s5 acc5 = r := ⟨_, rfl⟩
                have hs5k : s5.k < xs.length := by
                  have := nodeQ_in HEND.out f' (lev + 1) s4 acc4 hs4k
                  rw [h5] at this
                  exact this
                have hs6k : s6.k < xs.length := by
                  have := nodeQ_in HEND.out f' (lev + 1) s5 acc5 hs5k
                  rw [h6] at this
                  exact this
                have HR := Lib.hid (HRIP.out 2 p s4 s5 s6 acc5 acc6 HK.out rfl HPR.out (ha4.symm ▸ h5) h6)
                have H5 := Lib.hid h5
                have H6 := Lib.hid h6
                clear h5 h6 ha4 hlen7
                go_wp2_with fail
                refine (HOK.out (lev + 1) s4 acc4 W10 _ (by omega) (by omega) (by omega) hs4k HL7.out HS10.out.here).mono ?_
                rintro e w11 ⟨⟨u11, he⟩, hl5, v5, hn5⟩
                rw [H5.out] at hl5 hn5
                subst he
                have HS11 := Lib.hid (HS10.out.trans hn5)
                have HL11 := Lib.hid hl5
                clear hl5 hn5
                go_wp2_with fail
                refine (HOK.out (lev + 1) s5 acc5 w11 _ (by omega) (by omega) (by omega) hs5k HL11.out HS11.out.here).mono ?_
                rintro e w12 ⟨⟨u12, he⟩, hl6, v6, hn6⟩
                rw [H6.out] at hl6 hn6
                subst he
                have HS12 := Lib.hid (HS11.out.trans hn6)
                have HL12 := Lib.hid hl6
                clear hl6 hn6
                go_wp2_with fail
                refine (take_ps w12 rb B lv _ s6 xs 3 ⟨#[125]⟩ HS12.out.ps HS12.out.lx hB hs6k hk).mono ?_
                rintro e w13 ⟨⟨u13, he⟩, hi13, hg13⟩
                subst he
                have HS13 := Lib.hid (HS12.out.gb hB hrb hi13 hg13)
                clear hi13 hg13
                go_wp2_with fail
                exact bodyPost_ret (results_none rfl _ _ _) rfl (by rw [HR.out]; exact ⟨⟨_, rfl⟩, HL12.out, _, HS13.out⟩)
            | false =>
              rw [if_neg Bool.false_ne_true] at hi
              have HT3 := Lib.hid (HT2.out.gb hB hrb hi hg)
              clear hi hg c0 c1 c2 c3 c4 cf hrs
              obtain ⟨c0, c1, c2, c3, c4, cf, hrs⟩ := HT3.out.ps.cells
              go_wp2_with fail
              refine (HTRY.out ⟨#[121]⟩ wt3 HT3.out).mono ?_
              rintro e wt4 ⟨he, hi, hg⟩
              rw [show bts ⟨#[121]⟩ = [121] from rfl, HBB4.out] at he hi
              subst he
              cases b4 with
              | true =>
                rw [if_pos rfl] at hi
                have HT4 := Lib.hid (HT3.out.gb hB hrb hi hg)
                clear hi hg c0 c1 c2 c3 c4 cf hrs
                obtain ⟨c0, c1, c2, c3, c4, cf, hrs⟩ := HT4.out.ps.cells
                have hs2k : s2.k < xs.length := HSK.out _ HBB4.out
                have HK := Lib.hid (show kindQ x3 = some 3 from HKD.out)
                obtain ⟨⟨p, s4⟩, hpr⟩ : ∃ pr, numQ xs s2 (loP 3) (hiP 3) = pr := ⟨_, rfl⟩
                have hs4k : s4.k < xs.length := by
                  have := numQ_in HEND.out (lo := loP 3) (hi := hiP 3) hs2k
                  rw [hpr] at this
                  exact this
                have HPR := Lib.hid hpr
                have HSB := Lib.hid (HT4.out.alloc hB hrb (.cells #[.int .i64 3, .int .i64 0] 64))
                clear hpr c0 c1 c2 c3 c4 cf hrs
                go_wp2_with fail
                refine (limits_any 3 _).mono ?_
                rintro e wq ⟨he, hq⟩
                subst he
                subst hq
                go_wp2_with fail
                refine (number_ps _ rb B lv _ s2 xs (loP 3) (hiP 3) HSB.out.ps HSB.out.lx hB HEND.out hs2k hk HNM.out).mono ?_
                rintro e w7 ⟨he, hi7, hg7⟩
                rw [HPR.out] at he hi7
                subst he
                have HB7 := Lib.hid (HT4.out.box hB hrb (p := p) hi7 hg7)
                have HX7 := Lib.hid (HT4.out.rbox hB hrb hg7)
                obtain ⟨d0, d1⟩ := cells2 HX7.out
                have df := frz HX7.out
                have HN := Lib.hid HB7.out.2
                have HS8 := Lib.hid HB7.out.1
                clear hi7 hg7
                go_wp2_with fail
                obtain ⟨N, hN⟩ : ∃ N, wt4.heap.size = N := ⟨_, rfl⟩
                obtain ⟨W8, hW8⟩ : ∃ W8, w7.setCell ⟨wt4.heap.size, 1, none⟩ (.int .i64 p) = W8 := ⟨_, rfl⟩
                clear d0 d1 df HB7 HX7 HSB
                rw [hW8, hN]
                rw [hW8] at HS8
                rw [hW8, hN] at HN
                clear hW8 hN
                obtain ⟨e0, e1⟩ := cells2 HN.out
                obtain ⟨c0, c1, c2, c3, c4, cf, hrs⟩ := HS8.out.ps.cells
                have hrz : rb < W8.heap.size := hrs
                have hNz : N < W8.heap.size := (Array.getElem?_eq_some_iff.1 HN.out).1
                have hNr : rb < N ∨ N < rb ∨ True := .inr (.inr trivial)
                clear hNr
                go_region_law
                  ((refine step_append_lies _ (by rfl) _ _ 26 (by rfl) Bn 64 i0 _ 2 16 Tryd.underlying26 hi0 hq0 hq1 hq2 rfl (by omega) (.slice A acc.length c) acc.length (ndCells acc) (by rfl) (NdAt.next HS8.out) ⟨W8.heap.size, 0, none⟩ 1 1 [.int .i64 3, .int .i64 p] (by rfl) (by rfl) (World.news_of_block (cs := #[.int .i64 3, .int .i64 p]) (t := 64) (fr := (0, 0)) (heap_alloc_last W8 _)) (nd_mem2 3 p) (by omega) (by simp only [maxLen]; omega) (by omega) (by rw [szq]; have := HS8.out.big; omega) (W8.heap.size + 1) szq ?_; intro gg cap w9 hown9 hgrow hat hlt; obtain ⟨c29, f29⟩ := HS8.out.c7 hrb hgrow))
                all_goals
                  have HS10 := Lib.hid (HS8.out.app hB hrb (k := 3) (p := p) hgrow hown9)
                  obtain ⟨W10, hW10⟩ : ∃ W10, w9.setCell ⟨rb, 4, none⟩ (.slice (some ⟨gg, 0, none⟩) (acc.length + 1) cap) = W10 := ⟨_, rfl⟩
                  rw [hW10] at HS10
                  rw [hW10]
                  clear hown9 hgrow hat hlt c29 f29 hW10 c0 c1 c2 c3 c4 cf hrs e0 e1 HN HS8
                  go_wp2_with fail
                  refine (isRip_any 3 W10).mono ?_
                  rintro e wq ⟨he, hq⟩
                  rw [show ripP 3 = true from rfl] at he
                  subst he
                  rw [hq]
                  clear hq
                  have hlen7 : (acc ++ ([⟨3, p⟩] : List Nd)).length ≤ 127 := by rw [List.length_append]; exact hal6
                  have HL7 := Lib.hid hlen7
                  obtain ⟨acc4, ha4⟩ : ∃ a, acc ++ ([⟨3, p⟩] : List Nd) = a := ⟨_, rfl⟩
                  rw [ha4] at HL7 HS10
                  obtain ⟨⟨s5, acc5⟩, h5⟩ : ∃ r, nodeQ xs f' (lev + 1) s4 acc4 = r := ⟨_, rfl⟩
                  obtain ⟨⟨s6, acc6⟩, h6⟩ : ∃ r, nodeQ xs f' (lev + 1) s5 acc5 = r := ⟨_, rfl⟩
                  have hs5k : s5.k < xs.length := by
                    have := nodeQ_in HEND.out f' (lev + 1) s4 acc4 hs4k
                    rw [h5] at this
                    exact this
                  have hs6k : s6.k < xs.length := by
                    have := nodeQ_in HEND.out f' (lev + 1) s5 acc5 hs5k
                    rw [h6] at this
                    exact this
                  have HR := Lib.hid (HRIP.out 3 p s4 s5 s6 acc5 acc6 HK.out rfl HPR.out (ha4.symm ▸ h5) h6)
                  have H5 := Lib.hid h5
                  have H6 := Lib.hid h6
                  clear h5 h6 ha4 hlen7
                  go_wp2_with fail
                  refine (HOK.out (lev + 1) s4 acc4 W10 _ (by omega) (by omega) (by omega) hs4k HL7.out HS10.out.here).mono ?_
                  rintro e w11 ⟨⟨u11, he⟩, hl5, v5, hn5⟩
                  rw [H5.out] at hl5 hn5
                  subst he
                  have HS11 := Lib.hid (HS10.out.trans hn5)
                  have HL11 := Lib.hid hl5
                  clear hl5 hn5
                  go_wp2_with fail
                  refine (HOK.out (lev + 1) s5 acc5 w11 _ (by omega) (by omega) (by omega) hs5k HL11.out HS11.out.here).mono ?_
                  rintro e w12 ⟨⟨u12, he⟩, hl6, v6, hn6⟩
                  rw [H6.out] at hl6 hn6
                  subst he
                  have HS12 := Lib.hid (HS11.out.trans hn6)
                  have HL12 := Lib.hid hl6
                  clear hl6 hn6
                  go_wp2_with fail
                  refine (take_ps w12 rb B lv _ s6 xs 3 ⟨#[125]⟩ HS12.out.ps HS12.out.lx hB hs6k hk).mono ?_
                  rintro e w13 ⟨⟨u13, he⟩, hi13, hg13⟩
                  subst he
                  have HS13 := Lib.hid (HS12.out.gb hB hrb hi13 hg13)
                  clear hi13 hg13
                  go_wp2_with fail
                  exact bodyPost_ret (results_none rfl _ _ _) rfl (by rw [HR.out]; exact ⟨⟨_, rfl⟩, HL12.out, _, HS13.out⟩)
              | false =>
                rw [if_neg Bool.false_ne_true] at hi
                have HT4 := Lib.hid (HT3.out.gb hB hrb hi hg)
                clear hi hg c0 c1 c2 c3 c4 cf hrs
                obtain ⟨c0, c1, c2, c3, c4, cf, hrs⟩ := HT4.out.ps.cells
                have HR := Lib.hid (HNONE.out HKD.out)
                go_wp2_with fail
                refine (HNX3.out wt4 HT4.out).mono ?_
                rintro e w7 ⟨he, hb7⟩
                subst he
                have HS7 := Lib.hid (HT4.out.below hB hrb hb7)
                clear hb7
                go_wp2_with fail
                refine (fail_ps w7 rb lv _ s1 5 x3.off HS7.out.ps).mono ?_
                rintro e w8 ⟨⟨u8, he⟩, hi8, hg8⟩
                subst he
                have HS8 := Lib.hid (HS7.out.gb hB hrb hi8 hg8)
                clear hi8 hg8
                go_wp2_with fail
                exact bodyPost_ret (results_none rfl _ _ _) rfl (by rw [HR.out]; exact ⟨⟨_, rfl⟩, hal, _, HS8.out⟩)
      · have hfe : (s1.e != 0) = true := by rw [bne_iff_ne]; exact hse
        have hR : R = (s1, acc) := by
          have := HBAD.out H3.out (by rw [h3]; exact hse)
          rw [h3] at this
          exact this
        subst hR
        clear hse h3
        go_wp2_with fail
        refine bodyPost_ret (results_none rfl _ _ _) rfl ⟨⟨_, rfl⟩, hal, _, HS2.out⟩

theorem node_ps (xs : List Lx) (hend : LxEnds xs) (hk : xs.length < 1000000) (hnm : ∀ x ∈ xs, 0 ≤ x.num ∧ x.num ≤ 1099511627776) (rb Bn B : Nat) (lv : Value) (hB : B ≤ rb) (hrb : rb < Bn) : ∀ f, NodeOk xs rb Bn B lv f := by
  intro f
  induction f with
  | zero => exact node_step xs hend hk hnm rb Bn B lv hB hrb 0 (fun f' e => by omega)
  | succ f ih => exact node_step xs hend hk hnm rb Bn B lv hB hrb (f + 1) (fun f' e => (show f' = f by omega) ▸ ih)

end Go.Proofs.YtbmcfodhjibooaaDoor
