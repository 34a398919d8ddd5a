/-
  The contract of pattern's Parse.
-/
import Derived.Test.YtbmcfodhjibooaaDoorPaM
namespace Saw
theorem valN_leP : ∀ (l : List UInt8) (n m : Int), n ≤ 1099511627776 → valN n l = some m → m ≤ 1099511627776
  | [], n, m, h, hv => by injection hv with hv; omega
  | c :: r, n, m, _, hv => by
    rw [valN] at hv
    split at hv
    · cases hv
    · exact valN_leP r _ m (by omega) hv
theorem lexOK_leP {x : Lx} (h : lexOK x) : 0 ≤ x.num ∧ x.num ≤ 1099511627776 := by
  rcases lexOK_canon h with h1 | h1 | h1
  · rw [h1.2]; decide
  · refine ⟨h1.2.2, ?_⟩
    obtain ⟨_, hr⟩ := h
    have h2 := hr 0
    cases hx : x.text with
    | nil => rw [hx, readP] at h2; injection h2 with h3 h4; cases h4
    | cons c r =>
      rw [hx, readP] at h2
      split at h2
      · split at h2
        · injection h2 with h3 h4; cases h4
        · injection h2 with h3 h4
          have := congrArg Lx.kind h3
          rw [h1.1] at this
          cases this
      · split at h2
        · split at h2
          · injection h2 with h3 h4
            have h5 := congrArg Lx.num h3
            simp only at h5
            rw [← h5]
            rename_i hv
            rw [valueP] at hv ⊢
            split at hv
            · cases hv
            · rename_i hq
              rw [if_neg hq]
              cases hvn : valN 0 (List.take (spanN digI (c :: r)) (c :: r)) with
              | none => rw [hvn] at hv; cases hv
              | some m => exact valN_leP _ 0 m (by decide) hvn
          · injection h2 with h3 h4
            rename_i hv
            exact absurd h4 hv
        · split at h2
          · injection h2 with h3 h4
            have := congrArg Lx.kind h3
            rw [h1.1] at this
            cases this
          · split at h2
            · injection h2 with h3 h4
              have := congrArg Lx.kind h3
              rw [h1.1] at this
              cases this
            · injection h2 with h3 h4; cases h4
  · rw [h1.2]; decide
theorem scan_okp {s : List UInt8} {xs : List Lx} {a : Int} (h : scanP s = (xs, 0, a)) : a = 0 ∧ 0 < xs.length ∧ LxEnds xs ∧ xs.length ≤ 8001 ∧ ∀ x ∈ xs, 0 ≤ x.num ∧ x.num ≤ 1099511627776 := by
  have hg := scanP_good s (by rw [h])
  rw [h] at hg
  obtain ⟨_, h2, _, h4, _⟩ := hg
  simp only at h2 h4
  subst h2
  obtain ⟨ys, rfl, hk, hok, _⟩ := scanP_can h
  refine ⟨rfl, by rw [List.length_append, List.length_singleton]; omega, endsP hk, h4, fun x hx => ?_⟩
  rcases List.mem_append.1 hx with hx | hx
  · exact lexOK_leP (hok x hx)
  · rw [List.mem_singleton.1 hx]; exact ⟨Int.le_refl _, (by decide : (0:Int) ≤ 1099511627776)⟩
def vsQ (a b c d : Int) : Nat → Array Int
  | 0 => #[0, 0, 0, 0]
  | 1 => #[a, 0, 0, 0]
  | 2 => #[a, b, 0, 0]
  | 3 => #[a, b, c, 0]
  | _ => #[a, b, c, d]
def stQ (s0 s1 s2 s3 s4 : Ps) : Nat → Ps
  | 0 => s0
  | 1 => s1
  | 2 => s2
  | 3 => s3
  | _ => s4
end Saw
namespace Go.Proofs.YtbmcfodhjibooaaDoor
open Go.RowKit Saw Go.Sort

def ParsePtPost (r : (Rc × List Nd) × Int × Int) (w : World) (e : Ending) (w' : World) : Prop :=
  ∃ v, e = .returned (.tuple #[.agg #[.int .i64 r.1.1.xa, .int .i64 r.1.1.xb, .int .i64 r.1.1.ya, .int .i64 r.1.1.yb, v], .int .i64 r.2.1, .int .i64 r.2.2]) ∧ RdNd w' w'.heap.size v r.1.2 ∧ Below w.heap.size w w'
theorem pat_info : (Tryd.prog.info? 28).map (·.size) = some 5 := by kernel_rfl
theorem pat_res {fn : Func} {p q u : Tmp} {w : World} (h : fn.results = #[.cell p 28, .tmp q, .tmp u]) (tmps : Array Value) (g : Nat) (cs : List Value) (hcs : cs.length = 5)
    (hp : tmps.getD p undef = .pointer (some ⟨g, 0, none⟩)) {t : TypeId} {fr : Nat × Nat} (hg : w.heap[g]? = some (.cells cs.toArray t fr)) (v1 v2 : Value) (hq : tmps.getD q undef = v1) (hu : tmps.getD u undef = v2) :
    (results fn tmps).run Tryd.prog w = .ok (.tuple #[.agg cs.toArray, v1, v2]) w := by
  have hp' : tmps[p]?.getD undef = .pointer (some ⟨g, 0, none⟩) := by simpa using hp
  have hq' : tmps[q]?.getD undef = v1 := by simpa using hq
  have hu' : tmps[u]?.getD undef = v2 := by simpa using hu
  simp [results, h, hp', hq', hu', asAddr, run_loadVar_mid w g 0 28 cs _ (rangeAt_block hg) Tryd.underlying28 rfl (pat_info.trans (by rw [hcs]))]
theorem same5 {w : World} {N : Nat} {a b c d e : Value} {t : TypeId} (h : w.heap[N]? = some (.cells #[a, b, c, d, e] t (0, 0))) : w.setCell ⟨N, 0, none⟩ a = w ∧ w.setCell ⟨N, 1, none⟩ b = w ∧ w.setCell ⟨N, 2, none⟩ c = w ∧ w.setCell ⟨N, 3, none⟩ d = w ∧ w.setCell ⟨N, 4, none⟩ e = w :=
  ⟨setCell_same h rfl, setCell_same h rfl, setCell_same h rfl, setCell_same h rfl, setCell_same h rfl⟩
/-- The memory of Parse: its results' block m0, the parser's block rb, the numbers' block M. -/
structure PqAt (w W : World) (m0 rb M : Nat) (lv : Value) (xs : List Lx) (s : Ps) (ns : Array Int) : Prop where
  ps : IsPs W rb lv (.slice none 0 0) s
  nums : W.heap[M]? = some (.cells (ns.map (.int .i64)) 98 (0, 0))
  res : W.heap[m0]? = some (.cells #[.int .i64 0, .int .i64 0, .int .i64 0, .int .i64 0, .slice none 0 0] 28 (0, 0))
  lx : Lxs W rb lv xs
  below : Below m0 w W
/-- As PqAt, ahead of the numbers. -/
structure PqO (w W : World) (m0 rb : Nat) (lv : Value) (xs : List Lx) (s : Ps) : Prop where
  ps : IsPs W rb lv (.slice none 0 0) s
  res : W.heap[m0]? = some (.cells #[.int .i64 0, .int .i64 0, .int .i64 0, .int .i64 0, .slice none 0 0] 28 (0, 0))
  lx : Lxs W rb lv xs
  below : Below m0 w W
theorem PqO.gb {w W w5 : World} {m0 rb : Nat} {lv : Value} {xs : List Lx} {s s' : Ps} (h : PqO w W m0 rb lv xs s) (h1 : m0 < rb) (hp : IsPs w5 rb lv (.slice none 0 0) s') (hg : W.grownBy w5 (some rb)) : PqO w w5 m0 rb lv xs s' := by
  have hr := (Array.getElem?_eq_some_iff.1 h.ps).1
  exact ⟨hp, (hg.block m0 (by omega) (fun e => by injection e; omega)).trans h.res, h.lx.kept hg (Nat.le_refl _) (by omega), h.below.grown hg (by omega) (fun k e => by injection e; omega)⟩
theorem PqO.below1 {w W w5 : World} {m0 rb : Nat} {lv : Value} {xs : List Lx} {s : Ps} (h : PqO w W m0 rb lv xs s) (h1 : m0 < rb) (hb : Below W.heap.size W w5) : PqO w w5 m0 rb lv xs s := h.gb h1 (h.ps.below hb) (gb_below hb)
theorem PqO.arr {w W : World} {m0 rb : Nat} {lv : Value} {xs : List Lx} {s : Ps} (h : PqO w W m0 rb lv xs s) (h1 : m0 < rb) : PqAt w (W.alloc (.cells #[.int .i64 0, .int .i64 0, .int .i64 0, .int .i64 0] 98)) m0 rb W.heap.size lv xs s #[0, 0, 0, 0] := by
  have h2 := h.gb h1 (h.ps.alloc _) (World.grownBy_alloc W (.cells #[.int .i64 0, .int .i64 0, .int .i64 0, .int .i64 0] 98) _)
  exact ⟨h2.ps, by simpa using heap_alloc_last W (.cells #[.int .i64 0, .int .i64 0, .int .i64 0, .int .i64 0] 98), h2.res, h2.lx, h2.below⟩
theorem pat_set {W : World} {m0 : Nat} {cs : Array Value} (h : W.heap[m0]? = some (.cells cs 28 (0, 0))) (i : Nat) (v : Value) : (W.setCell ⟨m0, i, none⟩ v).heap[m0]? = some (.cells (cs.setIfInBounds i v) 28 (0, 0)) ∧ W.grownBy (W.setCell ⟨m0, i, none⟩ v) (some m0) := by
  refine ⟨?_, ⟨rfl, rfl, rfl, by simp [World.setCell], fun j _ hne => Below.heap_setCell _ _ _ _ (fun e => hne (by rw [e]))⟩⟩
  rw [setCell_eq_setRow W m0 i _ _ _ _ h, setRow_heap _ _ _ _ _ _ h]
theorem pat_end {w u W : World} {m0 rb Bn B : Nat} {lv v : Value} {xs : List Lx} {s : Ps} {ns : List Nd} {z0 z1 z2 z3 z4 : Value} (hr : W.heap[m0]? = some (.cells #[z0, z1, z2, z3, z4] 28 (0, 0))) (hn : NdAt u W rb Bn B lv v xs s ns) (hb : Below m0 w W) (hm : m0 < Bn) (a b c d : Value) :
    (((((W.setCell ⟨m0, 0, none⟩ a).setCell ⟨m0, 1, none⟩ b).setCell ⟨m0, 2, none⟩ c).setCell ⟨m0, 3, none⟩ d).setCell ⟨m0, 4, none⟩ v).heap[m0]? = some (.cells #[a, b, c, d, v] 28 (0, 0)) ∧
    RdNd (((((W.setCell ⟨m0, 0, none⟩ a).setCell ⟨m0, 1, none⟩ b).setCell ⟨m0, 2, none⟩ c).setCell ⟨m0, 3, none⟩ d).setCell ⟨m0, 4, none⟩ v) (((((W.setCell ⟨m0, 0, none⟩ a).setCell ⟨m0, 1, none⟩ b).setCell ⟨m0, 2, none⟩ c).setCell ⟨m0, 3, none⟩ d).setCell ⟨m0, 4, none⟩ v).heap.size v ns ∧
    Below m0 w (((((W.setCell ⟨m0, 0, none⟩ a).setCell ⟨m0, 1, none⟩ b).setCell ⟨m0, 2, none⟩ c).setCell ⟨m0, 3, none⟩ d).setCell ⟨m0, 4, none⟩ v) := by
  obtain ⟨h0, g0⟩ := pat_set hr 0 a
  obtain ⟨h1, g1⟩ := pat_set h0 1 b
  obtain ⟨h2, g2⟩ := pat_set h1 2 c
  obtain ⟨h3, g3⟩ := pat_set h2 3 d
  obtain ⟨h4, g4⟩ := pat_set h3 4 v
  have hg := gb_tr (gb_tr (gb_tr (gb_tr g0 g1) g2) g3) g4
  have hW := (Array.getElem?_eq_some_iff.1 hr).1
  have ho := hn.own.kept hg (.inr fun e => by have := (own_at hn.own e).1; omega)
  refine ⟨h4, Rd.of_own ho, hb.grown hg (by omega) (fun k e => by injection e; omega)⟩
theorem PqAt.gb {w W w5 : World} {m0 rb M : Nat} {lv : Value} {xs : List Lx} {s s' : Ps} {ns : Array Int} (h : PqAt w W m0 rb M lv xs s ns) (h1 : m0 < rb) (h2 : rb < M) (hp : IsPs w5 rb lv (.slice none 0 0) s') (hg : W.grownBy w5 (some rb)) : PqAt w w5 m0 rb M lv xs s' ns := by
  have hM := (Array.getElem?_eq_some_iff.1 h.nums).1
  exact ⟨hp, (hg.block M hM (fun e => by injection e; omega)).trans h.nums, (hg.block m0 (by omega) (fun e => by injection e; omega)).trans h.res, h.lx.kept hg (Nat.le_refl _) (by omega), h.below.grown hg (by omega) (fun k e => by injection e; omega)⟩
theorem PqAt.put {w W : World} {m0 rb M : Nat} {lv : Value} {xs : List Lx} {s : Ps} {ns : Array Int} (h : PqAt w W m0 rb M lv xs s ns) (h1 : m0 < rb) (h2 : rb < M) (k : Nat) (v : Int) (ms : Array Int) (hms : ns.setIfInBounds k v = ms) : PqAt w (W.setCell ⟨M, k, none⟩ (.int .i64 v)) m0 rb M lv xs s ms := by
  have hM := (Array.getElem?_eq_some_iff.1 h.nums).1
  have hgs : W.grownBy (W.setCell ⟨M, k, none⟩ (.int .i64 v)) (some M) := ⟨rfl, rfl, rfl, by simp [World.setCell], fun j _ hne => Below.heap_setCell _ _ _ _ (fun e => hne (by rw [e]))⟩
  refine ⟨(hgs.block rb (by omega) (fun e => by injection e; omega)).trans h.ps, ?_, (hgs.block m0 (by omega) (fun e => by injection e; omega)).trans h.res, Rd.keep h.lx fun q hq => World.cell?_of_block (a := q) (hgs.block q.block (by omega) (fun e => by injection e; omega)), h.below.grown hgs (by omega) (fun k e => by injection e; omega)⟩
  rw [setCell_eq_setRow W M k _ _ _ _ h.nums, setRow_heap _ _ _ _ _ _ h.nums, ← hms]
  congr 2
  simp

set_option maxRecDepth 100000 in
set_option maxHeartbeats 8000000 in
theorem parse_any (s : ByteArray) (w : World) (hs : s.size ≤ 9223372036854775807) :
    Calls Tryd.prog 29 #[.string s] w (ParsePtPost (parsePt (bts s)) w) := by
  obtain ⟨r, hr⟩ : ∃ r, parsePt (bts s) = r := ⟨_, rfl⟩
  rw [hr]
  have HR := Lib.hid hr
  have F3 := lx_f3
  have F0 := lx_f0
  clear hr
  go_enter Tryd.func29, Tryd.ntmps29
  go_wp2_with fail
  refine (scan_any s _ hs).mono ?_
  rintro e w1 ⟨v, he, ho, hb⟩
  obtain ⟨xs, er, at_, hsc⟩ : ∃ xs er at_, scanP (bts s) = (xs, er, at_) := ⟨_, _, _, rfl⟩
  rw [hsc] at he ho
  simp only at he ho
  have hb1 := hb.size
  rw [World.size_alloc] at hb1
  have hres : w1.heap[w.heap.size]? = some (.cells #[.int .i64 0, .int .i64 0, .int .i64 0, .int .i64 0, .slice none 0 0] 28 (0, 0)) :=
    (hb.block _ (by rw [World.size_alloc]; omega)).trans (heap_alloc_last w _)
  have hbw : Below w.heap.size w w1 := ⟨hb.os, hb.tape, hb.output, by omega, fun k hk => (hb.block k (by rw [World.size_alloc]; omega)).trans (Below.heap_alloc _ _ _ hk)⟩
  have HRES := Lib.hid hres
  have HBW := Lib.hid hbw
  have HO := Lib.hid ho
  have HSC := Lib.hid hsc
  clear hres hbw ho hsc hb
  by_cases her : er = 0
  · subst her
    obtain ⟨ha0, hpos, hends, hxl, hnm⟩ := scan_okp HSC.out
    subst ha0
    have hrd : Rd w1 w1.heap.size 4 v xs.length (lxsCells xs) := Rd.of_own HO.out
    obtain ⟨_, _, A, c, hv, _⟩ := id hrd
    subst hv
    subst he
    have HRD := Lib.hid hrd
    have HEND := Lib.hid hends
    have HNM := Lib.hid hnm
    clear hrd hends hnm HO
    obtain ⟨x0, hx0⟩ : ∃ x0, lxAt xs 0 = x0 := ⟨_, rfl⟩
    obtain ⟨off, hoff⟩ : ∃ off, x0.off = off := ⟨_, rfl⟩
    obtain ⟨s0, hs0⟩ : ∃ s0, pq1 xs = s0 := ⟨_, rfl⟩
    obtain ⟨⟨a, sA⟩, hA⟩ : ∃ p, numQ xs s0 (-600) 600 = p := ⟨_, rfl⟩
    obtain ⟨⟨b, sB⟩, hB⟩ : ∃ p, numQ xs sA (-600) 600 = p := ⟨_, rfl⟩
    obtain ⟨⟨cc, sC⟩, hC⟩ : ∃ p, numQ xs sB (-600) 600 = p := ⟨_, rfl⟩
    obtain ⟨⟨d, sD⟩, hD⟩ : ∃ p, numQ xs sC (-600) 600 = p := ⟨_, rfl⟩
    have hdA' : hdA xs = (a, sA) := by rw [hdA, hs0, hA]
    have hdB' : hdB xs = (b, sB) := by rw [hdB, hdA', hB]
    have hdC' : hdC xs = (cc, sC) := by rw [hdC, hdB', hC]
    have hdD' : hdD xs = (d, sD) := by rw [hdD, hdC', hD]
    have hk0 : s0.k < xs.length := by rw [← hs0]; exact takeQ_in HEND.out (by decide) hpos
    have hkA : sA.k < xs.length := by have := numQ_in HEND.out (lo := -600) (hi := 600) hk0; rw [hA] at this; exact this
    have hkB : sB.k < xs.length := by have := numQ_in HEND.out (lo := -600) (hi := 600) hkA; rw [hB] at this; exact this
    have hkC : sC.k < xs.length := by have := numQ_in HEND.out (lo := -600) (hi := 600) hkB; rw [hC] at this; exact this
    have hkD : sD.k < xs.length := by have := numQ_in HEND.out (lo := -600) (hi := 600) hkC; rw [hD] at this; exact this
    obtain ⟨s5, hs5⟩ : ∃ s5, pq2 xs = s5 := ⟨_, rfl⟩
    have h5 : s5 = if b ≤ a ∨ d ≤ cc then failQ sD 19 off else sD := by rw [← hs5, pq2, hdA', hdB', hdC', hdD', hx0, hoff]
    have hk5 : s5.k < xs.length := by
      have hf : (failQ sD 19 off).k = sD.k := by rw [failQ]; split <;> rfl
      rw [h5]
      split
      · rw [hf]; exact hkD
      · exact hkD
    obtain ⟨⟨s6, ns⟩, h6⟩ : ∃ p, nodeQ xs 65 1 s5 [] = p := ⟨_, rfl⟩
    have hk6 : s6.k < xs.length := by have := nodeQ_in HEND.out 65 1 s5 [] hk5; rw [h6] at this; exact this
    obtain ⟨y, hy⟩ : ∃ y, lxAt xs s6.k = y := ⟨_, rfl⟩
    obtain ⟨s7, hs7⟩ : ∃ s7, endQ xs = s7 := ⟨_, rfl⟩
    have h7 : s7 = if y.kind ≠ 0 then failQ s6 5 y.off else s6 := by rw [← hs7, endQ, bodyQ, hs5, h6, hy]
    have hr7 : r = if s7.e ≠ 0 then ((⟨0, 0, 0, 0⟩, []), s7.e, s7.off) else ((⟨a, b, cc, d⟩, ns), 0, 0) := by
      rw [← HR.out, parsePt, HSC.out]
      simp only [ne_eq, not_true_eq_false, if_false, hs7, hdA', hdB', hdC', hdD', bodyQ, hs5, h6]
    have HR7 := Lib.hid hr7
    have H7 := Lib.hid h7
    have H6 := Lib.hid h6
    have H5 := Lib.hid h5
    have HY := Lib.hid hy
    have HXO := Lib.hid hoff
    have HS0 := Lib.hid hs0
    have HNA := Lib.hid hA
    have HNB := Lib.hid hB
    have HNC := Lib.hid hC
    have HND := Lib.hid hD
    have HX0 := Lib.hid hx0
    clear hr7 h7 h6 h5 hy hoff hs0 hA hB hC hD hx0 hdA' hdB' hdC' hdD' hs5 hs7 HR HSC
    go_wp2_with fail
    obtain ⟨lv, hlv⟩ : ∃ lv, (Value.slice A xs.length c) = lv := ⟨_, rfl⟩
    obtain ⟨rb, hrb⟩ : ∃ rb, w1.heap.size = rb := ⟨_, rfl⟩
    obtain ⟨m0, hm0⟩ : ∃ m0, w.heap.size = m0 := ⟨_, rfl⟩
    have HM0 := Lib.hid hm0
    obtain ⟨W1, hW1⟩ : ∃ W1, w1.alloc (.cells #[.slice A xs.length c, .int .i64 0, .int .i64 0, .int .i64 0, .slice none 0 0] 107) = W1 := ⟨_, rfl⟩
    have hO1 : PqO w W1 m0 rb lv xs ⟨0, 0, 0⟩ := by
      rw [← hW1, ← hlv, ← hrb, ← hm0]
      exact ⟨heap_alloc_last w1 _, hpA HRES.out _, Rd.below HRD.out ((Below.refl _ _).alloc (Nat.le_refl _) _), HBW.out.alloc (by omega) _⟩
    rw [hW1, hrb, hm0]
    have hm0r : m0 < rb := by omega
    have HP1 := Lib.hid hO1
    have hrs1 : rb < W1.heap.size := (Array.getElem?_eq_some_iff.1 hO1.ps).1
    clear hO1 hW1 HRES HRD HBW hb1
    have hrb' := hrb
    clear hrb' hrb hm0 hlv
    go_wp2_with fail
    refine (next_ps W1 rb rb lv _ ⟨0, 0, 0⟩ xs HP1.out.ps HP1.out.lx (Nat.le_refl _) hpos (by omega)).mono ?_
    rintro e w2 ⟨he, hb2⟩
    rw [show lxAt xs (⟨0, 0, 0⟩ : Ps).k = x0 from HX0.out, HXO.out] at he
    subst he
    have HP2 := Lib.hid (HP1.out.below1 hm0r hb2)
    have hz2 := hb2.size
    clear hb2
    go_wp2_with fail
    refine (take_ps w2 rb rb lv _ ⟨0, 0, 0⟩ xs 1 ⟨#[102, 114, 97, 109, 101]⟩ HP2.out.ps HP2.out.lx (Nat.le_refl _) hpos (by omega)).mono ?_
    rintro e w3 ⟨⟨u3, he⟩, hi3, hg3⟩
    rw [show takeQ xs ⟨0, 0, 0⟩ 1 (bts ⟨#[102, 114, 97, 109, 101]⟩) = s0 from HS0.out] at hi3
    subst he
    have HP3 := Lib.hid (HP2.out.gb hm0r hi3 hg3)
    have hz3 := hg3.size
    clear hi3 hg3
    have HP4 := Lib.hid (HP3.out.arr hm0r)
    go_wp2_with fail
    obtain ⟨W4, hW4⟩ : ∃ W4, w3.alloc (.cells #[.int .i64 0, .int .i64 0, .int .i64 0, .int .i64 0] 98) = W4 := ⟨_, rfl⟩
    obtain ⟨M, hM⟩ : ∃ M, w3.heap.size = M := ⟨_, rfl⟩
    rw [hW4, hM] at HP4
    rw [hW4, hM]
    have hrM : rb < M := by omega
    clear hW4 hM HP1 HP2 HP3 HS0 HX0 HXO hz2 hz3 hrs1
    go_loopw [32] (fun i wr => ∃ k : Nat, i = .int .i64 k ∧ k ≤ 4 ∧ PqAt w wr m0 rb M lv xs (stQ s0 sA sB sC sD k) (vsQ a b cc d k)) (fun i _ => 4 - (intOf i).toNat)
    case atStart => exact ⟨0, rfl, by omega, HP4.out⟩
    case round =>
      obtain ⟨k, hi, hk4, hP⟩ := hrel
      have HP := Lib.hid hP
      clear hP HP4
      have hk5c : k = 0 ∨ k = 1 ∨ k = 2 ∨ k = 3 ∨ k = 4 := by omega
      clear hk4
      rcases hk5c with rfl | rfl | rfl | rfl | rfl
      · obtain rfl : _ = Value.int .i64 0 := hi
        have HQ := Lib.hid (show PqAt w wr m0 rb M lv xs s0 #[0, 0, 0, 0] from HP.out)
        clear HP
        go_wp2_with fail
        refine (number_ps wr rb rb lv _ s0 xs (-600) 600 HQ.out.ps HQ.out.lx (Nat.le_refl _) HEND.out hk0 (by omega) HNM.out).mono ?_
        rintro e w5 ⟨he, hi5, hg5⟩
        rw [HNA.out] at he hi5
        subst he
        have HP5 := Lib.hid (HQ.out.gb hm0r hrM hi5 hg5)
        have HP6 := Lib.hid (HP5.out.put hm0r hrM 0 a #[a, 0, 0, 0] (by simp))
        have hn5 : w5.heap[M]? = some (.cells #[.int .i64 0, .int .i64 0, .int .i64 0, .int .i64 0] 98 (0, 0)) := by simpa using HP5.out.nums
        obtain ⟨z0, z1, z2, z3⟩ := cells4 hn5
        have zf := frz hn5
        clear hi5 hg5 hn5
        go_wp2_with fail
        exact ⟨⟨1, rfl, by omega, HP6.out⟩, by decide⟩
      · obtain rfl : _ = Value.int .i64 1 := hi
        have HQ := Lib.hid (show PqAt w wr m0 rb M lv xs sA #[a, 0, 0, 0] from HP.out)
        clear HP
        go_wp2_with fail
        refine (number_ps wr rb rb lv _ sA xs (-600) 600 HQ.out.ps HQ.out.lx (Nat.le_refl _) HEND.out hkA (by omega) HNM.out).mono ?_
        rintro e w5 ⟨he, hi5, hg5⟩
        rw [HNB.out] at he hi5
        subst he
        have HP5 := Lib.hid (HQ.out.gb hm0r hrM hi5 hg5)
        have HP6 := Lib.hid (HP5.out.put hm0r hrM 1 b #[a, b, 0, 0] (by simp))
        have hn5 : w5.heap[M]? = some (.cells #[.int .i64 a, .int .i64 0, .int .i64 0, .int .i64 0] 98 (0, 0)) := by simpa using HP5.out.nums
        obtain ⟨z0, z1, z2, z3⟩ := cells4 hn5
        have zf := frz hn5
        clear hi5 hg5 hn5
        go_wp2_with fail
        exact ⟨⟨2, rfl, by omega, HP6.out⟩, by decide⟩
      · obtain rfl : _ = Value.int .i64 2 := hi
        have HQ := Lib.hid (show PqAt w wr m0 rb M lv xs sB #[a, b, 0, 0] from HP.out)
        clear HP
        go_wp2_with fail
        refine (number_ps wr rb rb lv _ sB xs (-600) 600 HQ.out.ps HQ.out.lx (Nat.le_refl _) HEND.out hkB (by omega) HNM.out).mono ?_
        rintro e w5 ⟨he, hi5, hg5⟩
        rw [HNC.out] at he hi5
        subst he
        have HP5 := Lib.hid (HQ.out.gb hm0r hrM hi5 hg5)
        have HP6 := Lib.hid (HP5.out.put hm0r hrM 2 cc #[a, b, cc, 0] (by simp))
        have hn5 : w5.heap[M]? = some (.cells #[.int .i64 a, .int .i64 b, .int .i64 0, .int .i64 0] 98 (0, 0)) := by simpa using HP5.out.nums
        obtain ⟨z0, z1, z2, z3⟩ := cells4 hn5
        have zf := frz hn5
        clear hi5 hg5 hn5
        go_wp2_with fail
        exact ⟨⟨3, rfl, by omega, HP6.out⟩, by decide⟩
      · obtain rfl : _ = Value.int .i64 3 := hi
        have HQ := Lib.hid (show PqAt w wr m0 rb M lv xs sC #[a, b, cc, 0] from HP.out)
        clear HP
        go_wp2_with fail
        refine (number_ps wr rb rb lv _ sC xs (-600) 600 HQ.out.ps HQ.out.lx (Nat.le_refl _) HEND.out hkC (by omega) HNM.out).mono ?_
        rintro e w5 ⟨he, hi5, hg5⟩
        rw [HND.out] at he hi5
        subst he
        have HP5 := Lib.hid (HQ.out.gb hm0r hrM hi5 hg5)
        have HP6 := Lib.hid (HP5.out.put hm0r hrM 3 d #[a, b, cc, d] (by simp))
        have hn5 : w5.heap[M]? = some (.cells #[.int .i64 a, .int .i64 b, .int .i64 cc, .int .i64 0] 98 (0, 0)) := by simpa using HP5.out.nums
        obtain ⟨z0, z1, z2, z3⟩ := cells4 hn5
        have zf := frz hn5
        clear hi5 hg5 hn5
        go_wp2_with fail
        exact ⟨⟨4, rfl, by omega, HP6.out⟩, by decide⟩
      · obtain rfl : _ = Value.int .i64 4 := hi
        have HQ := Lib.hid (show PqAt w wr m0 rb M lv xs sD #[a, b, cc, d] from HP.out)
        clear HP
        have hn5 : wr.heap[M]? = some (.cells #[.int .i64 a, .int .i64 b, .int .i64 cc, .int .i64 d] 98 (0, 0)) := by simpa using HQ.out.nums
        obtain ⟨z0, z1, z2, z3⟩ := cells4 hn5
        have zf := frz hn5
        have HMM := Lib.hid hn5
        clear hn5 HNA HNB HNC HND
        by_cases ha : b ≤ a
        · have hs5 : s5 = failQ sD 19 off := by rw [H5.out]; exact if_pos (.inl ha)
          have HS5 := Lib.hid hs5
          clear hs5
          go_wp2_with fail
          refine (fail_ps wr rb lv _ sD 19 off HQ.out.ps).mono ?_
          rintro e w5 ⟨⟨u5, he⟩, hi5, hg5⟩
          rw [← HS5.out] at hi5
          subst he
          have HPQ := Lib.hid (HQ.out.gb hm0r hrM hi5 hg5)
          clear hi5 hg5 HS5 HQ z0 z1 z2 z3 zf HMM
          have hm5 : w5.heap[M]? = some (.cells #[.int .i64 a, .int .i64 b, .int .i64 cc, .int .i64 d] 98 (0, 0)) := by simpa using HPQ.out.nums
          obtain ⟨z0, z1, z2, z3⟩ := cells4 hm5
          have zf := frz hm5
          clear hm5
          have hMq := (Array.getElem?_eq_some_iff.1 HPQ.out.nums).1
          have HND0 := Lib.hid (show NdAt w5 w5 rb w5.heap.size rb lv (.slice none 0 0) xs s5 [] from ⟨HPQ.out.ps, World.ownsRow_nil _ _ _ _, Kp.refl _ _ _, HPQ.out.lx, Nat.le_refl _⟩)
          go_wp2_with fail
          refine (node_ps xs HEND.out (by omega) HNM.out rb w5.heap.size rb lv (Nat.le_refl _) (by omega) 65 1 s5 [] w5 _ (by omega) (by omega) (by omega) hk5 (by simp) HND0.out).mono ?_
          rintro e w6 ⟨⟨u6, he⟩, hl6, v6, hn6⟩
          rw [H6.out] at hl6 hn6
          simp only at hl6 hn6
          subst he
          have hM6 : w6.heap[M]? = some (.cells #[.int .i64 a, .int .i64 b, .int .i64 cc, .int .i64 d] 98 (0, 0)) := (hn6.kp.block M hMq (by omega)).trans (by simpa using HPQ.out.nums)
          have hm6 := (hn6.kp.block m0 (by omega) (by omega)).trans HPQ.out.res
          have hb6 : Below m0 w w6 := ⟨hn6.kp.os.trans HPQ.out.below.os, hn6.kp.tape.trans HPQ.out.below.tape, hn6.kp.output.trans HPQ.out.below.output, Nat.le_trans HPQ.out.below.size hn6.kp.size, fun k hk => (hn6.kp.block k (by omega) (by omega)).trans (HPQ.out.below.block k hk)⟩
          have hz6 := hn6.kp.size
          have HN6 := Lib.hid hn6.here
          have HM6 := Lib.hid hM6
          have HR6 := Lib.hid hm6
          have HB6 := Lib.hid hb6
          have HL6 := Lib.hid hl6
          clear hn6 hM6 hm6 hb6 hl6 z0 z1 z2 z3 zf
          go_wp2_with fail
          refine (next_ps w6 rb rb lv v6 s6 xs HN6.out.ps HN6.out.lx (Nat.le_refl _) hk6 (by omega)).mono ?_
          rintro e w7 ⟨he, hb7⟩
          rw [HY.out] at he
          subst he
          have hz7 := hb7.size
          have HN7 := Lib.hid (HN6.out.below (Nat.le_refl _) (by omega) hb7)
          have HM7 := Lib.hid ((hb7.block M (by omega)).trans HM6.out)
          have HR8 := Lib.hid ((hb7.block m0 (by omega)).trans HR6.out)
          have HB7 := Lib.hid (show Below m0 w w7 from ⟨hb7.os.trans HB6.out.os, hb7.tape.trans HB6.out.tape, hb7.output.trans HB6.out.output, Nat.le_trans HB6.out.size hb7.size, fun k hk => (hb7.block k (by omega)).trans (HB6.out.block k hk)⟩)
          clear hb7
          by_cases hkd : y.kind = 0
          · have hkb : (y.kind != 0) = false := by rw [bne_eq_false_iff_eq]; exact hkd
            have hs7 : s7 = s6 := by rw [H7.out]; exact if_neg (fun h => h hkd)
            have HRS := Lib.hid HR8.out
            have HMS := Lib.hid HM7.out
            have HBL := Lib.hid HB7.out
            clear hkd HM6 HR6 HB6 HN6
            by_cases hse : s6.e = 0
            · have hr : r = ((⟨a, b, cc, d⟩, ns), 0, 0) := by rw [HR7.out, hs7]; exact if_neg (by rw [hse]; decide)
              subst hr
              have hfe : (s6.e != 0) = false := by rw [bne_eq_false_iff_eq]; exact hse
              obtain ⟨A6, c6, hv6⟩ := HN7.out.slice
              subst hv6
              obtain ⟨c0, c1, c2, c3, c4, cf, hrs⟩ := HN7.out.ps.cells
              obtain ⟨z0, z1, z2, z3⟩ := cells4 HMS.out
              have zf := frz HMS.out
              clear hs7
              go_wp2_with fail
              obtain ⟨N, hN⟩ : ∃ N, w7.heap.size = N := ⟨_, rfl⟩
              obtain ⟨W8, hW8⟩ : ∃ W8, w7.alloc (.cells #[.int .i64 a, .int .i64 b, .int .i64 cc, .int .i64 d] 25) = W8 := ⟨_, rfl⟩
              have HN8 := Lib.hid (show NdAt w6 W8 rb _ rb lv _ xs s6 ns from hW8 ▸ HN7.out.alloc (Nat.le_refl _) (by omega) _)
              have hq8 : W8.heap[N]? = some (.cells #[.int .i64 a, .int .i64 b, .int .i64 cc, .int .i64 d] 25 (0, 0)) := by rw [← hW8, ← hN]; exact heap_alloc_last w7 _
              have hr8 : W8.heap[m0]? = some (.cells #[.int .i64 0, .int .i64 0, .int .i64 0, .int .i64 0, .slice none 0 0] 28 (0, 0)) := by rw [← hW8]; exact hpA HRS.out _
              have hb8 : Below m0 w W8 := by rw [← hW8]; exact HBL.out.alloc (by omega) _
              rw [hW8, hN]
              have hNm : m0 < N := by omega
              have hz8 : W8.heap.size = N + 1 := by rw [← hW8, World.size_alloc, hN]
              clear z0 z1 z2 z3 zf c0 c1 c2 c3 c4 cf hrs hW8
              obtain ⟨q0, q1, q2, q3⟩ := cells4 hq8
              obtain ⟨m0c, m1c, m2c, m3c, m4c⟩ := cells5 hr8
              obtain ⟨c0, c1, c2, c3, c4, cf, hrs⟩ := HN8.out.ps.cells
              have mf := frz hr8
              have HRZ := Lib.hid hr8
              have HBZ := Lib.hid hb8
              clear hq8 hr8 hb8
              go_region
              all_goals (try go_wp2_with fail)
              all_goals
                obtain ⟨W9, hW9⟩ : ∃ W9, ((((W8.setCell ⟨m0, 0, none⟩ (.int .i64 a)).setCell ⟨m0, 1, none⟩ (.int .i64 b)).setCell ⟨m0, 2, none⟩ (.int .i64 cc)).setCell ⟨m0, 3, none⟩ (.int .i64 d)).setCell ⟨m0, 4, none⟩ (.slice A6 ns.length c6) = W9 := ⟨_, rfl⟩
                have hE := pat_end HRZ.out HN8.out HBZ.out (by omega) (.int .i64 a) (.int .i64 b) (.int .i64 cc) (.int .i64 d)
                rw [hW9] at hE ⊢
                obtain ⟨e1, e2, e3⟩ := hE
                clear hW9
                refine bodyPost_ret (pat_res (w := W9.drew) (g := m0) (cs := [.int .i64 a, .int .i64 b, .int .i64 cc, .int .i64 d, .slice A6 ns.length c6]) Tryd.results29 _ rfl rfl (show W9.drew.heap[m0]? = _ from e1) _ _ rfl rfl) rfl ⟨_, rfl, (show Rd W9 W9.heap.size 2 _ ns.length (ndCells ns) from e2), ?_⟩
                rw [HM0.out]
                exact ⟨e3.os, e3.tape, e3.output, e3.size, e3.block⟩
            · have hr : r = ((⟨0, 0, 0, 0⟩, []), s6.e, s6.off) := by rw [HR7.out, hs7]; exact if_pos hse
              subst hr
              have hfe : (s6.e != 0) = true := by rw [bne_iff_ne]; exact hse
              obtain ⟨c0, c1, c2, c3, c4, cf, hrs⟩ := HN7.out.ps.cells
              obtain ⟨m0c, m1c, m2c, m3c, m4c⟩ := cells5 HRS.out
              obtain ⟨y0, y1, y2, y3, y4⟩ := same5 HRS.out
              have mf := frz HRS.out
              clear hs7
              go_wp2_with fail
              go_region
              all_goals (try go_wp2_with fail)
              all_goals (try simp only [y0, y1, y2, y3, y4])
              all_goals
                refine bodyPost_ret (pat_res (w := (w7).drew) Tryd.results29 _ m0 [.int .i64 0, .int .i64 0, .int .i64 0, .int .i64 0, .slice none 0 0] rfl rfl HRS.out _ _ rfl rfl) rfl ⟨_, rfl, Rd.none_, ?_⟩
                rw [HM0.out]
                exact ⟨HBL.out.os, HBL.out.tape, HBL.out.output, HBL.out.size, HBL.out.block⟩
          · have hkb : (y.kind != 0) = true := by rw [bne_iff_ne]; exact hkd
            have hs7 : s7 = failQ s6 5 y.off := by rw [H7.out]; exact if_pos hkd
            have hse : (failQ s6 5 y.off).e ≠ 0 := failQ_e (by decide)
            obtain ⟨s8, hs8⟩ : ∃ s8, failQ s6 5 y.off = s8 := ⟨_, rfl⟩
            rw [hs8] at hs7 hse
            have HS8 := Lib.hid hs8
            have HS7 := Lib.hid hs7
            clear hkd HM6 HR6 HB6 HN6 hs8 hs7
            go_wp2_with fail
            refine (next_ps w7 rb rb lv v6 s6 xs HN7.out.ps HN7.out.lx (Nat.le_refl _) hk6 (by omega)).mono ?_
            rintro e w8 ⟨he, hb8⟩
            rw [HY.out] at he
            subst he
            have hz8 := hb8.size
            have HN8 := Lib.hid (HN7.out.below (Nat.le_refl _) (by omega) hb8)
            have HR9 := Lib.hid ((hb8.block m0 (by omega)).trans HR8.out)
            have HB8 := Lib.hid (show Below m0 w w8 from ⟨hb8.os.trans HB7.out.os, hb8.tape.trans HB7.out.tape, hb8.output.trans HB7.out.output, Nat.le_trans HB7.out.size hb8.size, fun k hk => (hb8.block k (by omega)).trans (HB7.out.block k hk)⟩)
            clear hb8
            go_wp2_with fail
            refine (fail_ps w8 rb lv v6 s6 5 y.off HN8.out.ps).mono ?_
            rintro e w9 ⟨⟨u9, he⟩, hi9, hg9⟩
            rw [HS8.out] at hi9
            subst he
            have HN9 := Lib.hid (HN8.out.gb (Nat.le_refl _) (by omega) hi9 hg9)
            have HRS := Lib.hid ((hg9.block m0 (by omega) (fun e => by injection e; omega)).trans HR9.out)
            have HBL := Lib.hid (HB8.out.grown hg9 (by omega) (fun k e => by injection e; omega))
            have hs7 : s7 = s8 := HS7.out
            clear hi9 hg9 HM7 HR8 HR9 HB7 HB8 HN7 HN8 HS7 HS8
            have hr : r = ((⟨0, 0, 0, 0⟩, []), s8.e, s8.off) := by rw [HR7.out, hs7]; exact if_pos hse
            subst hr
            have hfe : (s8.e != 0) = true := by rw [bne_iff_ne]; exact hse
            obtain ⟨c0, c1, c2, c3, c4, cf, hrs⟩ := HN9.out.ps.cells
            obtain ⟨m0c, m1c, m2c, m3c, m4c⟩ := cells5 HRS.out
            obtain ⟨y0, y1, y2, y3, y4⟩ := same5 HRS.out
            have mf := frz HRS.out
            clear hs7
            go_wp2_with fail
            go_region
            all_goals (try go_wp2_with fail)
            all_goals (try simp only [y0, y1, y2, y3, y4])
            all_goals
              refine bodyPost_ret (pat_res (w := (w9).drew) Tryd.results29 _ m0 [.int .i64 0, .int .i64 0, .int .i64 0, .int .i64 0, .slice none 0 0] rfl rfl HRS.out _ _ rfl rfl) rfl ⟨_, rfl, Rd.none_, ?_⟩
              rw [HM0.out]
              exact ⟨HBL.out.os, HBL.out.tape, HBL.out.output, HBL.out.size, HBL.out.block⟩
        · by_cases hc : d ≤ cc
          · have hs5 : s5 = failQ sD 19 off := by rw [H5.out]; exact if_pos (.inr hc)
            have HS5 := Lib.hid hs5
            clear hs5
            go_wp2_with fail
            refine (fail_ps wr rb lv _ sD 19 off HQ.out.ps).mono ?_
            rintro e w5 ⟨⟨u5, he⟩, hi5, hg5⟩
            rw [← HS5.out] at hi5
            subst he
            have HPQ := Lib.hid (HQ.out.gb hm0r hrM hi5 hg5)
            clear hi5 hg5 HS5 HQ z0 z1 z2 z3 zf HMM
            have hm5 : w5.heap[M]? = some (.cells #[.int .i64 a, .int .i64 b, .int .i64 cc, .int .i64 d] 98 (0, 0)) := by simpa using HPQ.out.nums
            obtain ⟨z0, z1, z2, z3⟩ := cells4 hm5
            have zf := frz hm5
            clear hm5
            have hMq := (Array.getElem?_eq_some_iff.1 HPQ.out.nums).1
            have HND0 := Lib.hid (show NdAt w5 w5 rb w5.heap.size rb lv (.slice none 0 0) xs s5 [] from ⟨HPQ.out.ps, World.ownsRow_nil _ _ _ _, Kp.refl _ _ _, HPQ.out.lx, Nat.le_refl _⟩)
            go_wp2_with fail
            refine (node_ps xs HEND.out (by omega) HNM.out rb w5.heap.size rb lv (Nat.le_refl _) (by omega) 65 1 s5 [] w5 _ (by omega) (by omega) (by omega) hk5 (by simp) HND0.out).mono ?_
            rintro e w6 ⟨⟨u6, he⟩, hl6, v6, hn6⟩
            rw [H6.out] at hl6 hn6
            simp only at hl6 hn6
            subst he
            have hM6 : w6.heap[M]? = some (.cells #[.int .i64 a, .int .i64 b, .int .i64 cc, .int .i64 d] 98 (0, 0)) := (hn6.kp.block M hMq (by omega)).trans (by simpa using HPQ.out.nums)
            have hm6 := (hn6.kp.block m0 (by omega) (by omega)).trans HPQ.out.res
            have hb6 : Below m0 w w6 := ⟨hn6.kp.os.trans HPQ.out.below.os, hn6.kp.tape.trans HPQ.out.below.tape, hn6.kp.output.trans HPQ.out.below.output, Nat.le_trans HPQ.out.below.size hn6.kp.size, fun k hk => (hn6.kp.block k (by omega) (by omega)).trans (HPQ.out.below.block k hk)⟩
            have hz6 := hn6.kp.size
            have HN6 := Lib.hid hn6.here
            have HM6 := Lib.hid hM6
            have HR6 := Lib.hid hm6
            have HB6 := Lib.hid hb6
            have HL6 := Lib.hid hl6
            clear hn6 hM6 hm6 hb6 hl6 z0 z1 z2 z3 zf
            go_wp2_with fail
            refine (next_ps w6 rb rb lv v6 s6 xs HN6.out.ps HN6.out.lx (Nat.le_refl _) hk6 (by omega)).mono ?_
            rintro e w7 ⟨he, hb7⟩
            rw [HY.out] at he
            subst he
            have hz7 := hb7.size
            have HN7 := Lib.hid (HN6.out.below (Nat.le_refl _) (by omega) hb7)
            have HM7 := Lib.hid ((hb7.block M (by omega)).trans HM6.out)
            have HR8 := Lib.hid ((hb7.block m0 (by omega)).trans HR6.out)
            have HB7 := Lib.hid (show Below m0 w w7 from ⟨hb7.os.trans HB6.out.os, hb7.tape.trans HB6.out.tape, hb7.output.trans HB6.out.output, Nat.le_trans HB6.out.size hb7.size, fun k hk => (hb7.block k (by omega)).trans (HB6.out.block k hk)⟩)
            clear hb7
            by_cases hkd : y.kind = 0
            · have hkb : (y.kind != 0) = false := by rw [bne_eq_false_iff_eq]; exact hkd
              have hs7 : s7 = s6 := by rw [H7.out]; exact if_neg (fun h => h hkd)
              have HRS := Lib.hid HR8.out
              have HMS := Lib.hid HM7.out
              have HBL := Lib.hid HB7.out
              clear hkd HM6 HR6 HB6 HN6
              by_cases hse : s6.e = 0
              · have hr : r = ((⟨a, b, cc, d⟩, ns), 0, 0) := by rw [HR7.out, hs7]; exact if_neg (by rw [hse]; decide)
                subst hr
                have hfe : (s6.e != 0) = false := by rw [bne_eq_false_iff_eq]; exact hse
                obtain ⟨A6, c6, hv6⟩ := HN7.out.slice
                subst hv6
                obtain ⟨c0, c1, c2, c3, c4, cf, hrs⟩ := HN7.out.ps.cells
                obtain ⟨z0, z1, z2, z3⟩ := cells4 HMS.out
                have zf := frz HMS.out
                clear hs7
                go_wp2_with fail
                obtain ⟨N, hN⟩ : ∃ N, w7.heap.size = N := ⟨_, rfl⟩
                obtain ⟨W8, hW8⟩ : ∃ W8, w7.alloc (.cells #[.int .i64 a, .int .i64 b, .int .i64 cc, .int .i64 d] 25) = W8 := ⟨_, rfl⟩
                have HN8 := Lib.hid (show NdAt w6 W8 rb _ rb lv _ xs s6 ns from hW8 ▸ HN7.out.alloc (Nat.le_refl _) (by omega) _)
                have hq8 : W8.heap[N]? = some (.cells #[.int .i64 a, .int .i64 b, .int .i64 cc, .int .i64 d] 25 (0, 0)) := by rw [← hW8, ← hN]; exact heap_alloc_last w7 _
                have hr8 : W8.heap[m0]? = some (.cells #[.int .i64 0, .int .i64 0, .int .i64 0, .int .i64 0, .slice none 0 0] 28 (0, 0)) := by rw [← hW8]; exact hpA HRS.out _
                have hb8 : Below m0 w W8 := by rw [← hW8]; exact HBL.out.alloc (by omega) _
                rw [hW8, hN]
                have hNm : m0 < N := by omega
                have hz8 : W8.heap.size = N + 1 := by rw [← hW8, World.size_alloc, hN]
                clear z0 z1 z2 z3 zf c0 c1 c2 c3 c4 cf hrs hW8
                obtain ⟨q0, q1, q2, q3⟩ := cells4 hq8
                obtain ⟨m0c, m1c, m2c, m3c, m4c⟩ := cells5 hr8
                obtain ⟨c0, c1, c2, c3, c4, cf, hrs⟩ := HN8.out.ps.cells
                have mf := frz hr8
                have HRZ := Lib.hid hr8
                have HBZ := Lib.hid hb8
                clear hq8 hr8 hb8
                go_region
                all_goals (try go_wp2_with fail)
                all_goals
                  obtain ⟨W9, hW9⟩ : ∃ W9, ((((W8.setCell ⟨m0, 0, none⟩ (.int .i64 a)).setCell ⟨m0, 1, none⟩ (.int .i64 b)).setCell ⟨m0, 2, none⟩ (.int .i64 cc)).setCell ⟨m0, 3, none⟩ (.int .i64 d)).setCell ⟨m0, 4, none⟩ (.slice A6 ns.length c6) = W9 := ⟨_, rfl⟩
                  have hE := pat_end HRZ.out HN8.out HBZ.out (by omega) (.int .i64 a) (.int .i64 b) (.int .i64 cc) (.int .i64 d)
                  rw [hW9] at hE ⊢
                  obtain ⟨e1, e2, e3⟩ := hE
                  clear hW9
                  refine bodyPost_ret (pat_res (w := W9.drew) (g := m0) (cs := [.int .i64 a, .int .i64 b, .int .i64 cc, .int .i64 d, .slice A6 ns.length c6]) Tryd.results29 _ rfl rfl (show W9.drew.heap[m0]? = _ from e1) _ _ rfl rfl) rfl ⟨_, rfl, (show Rd W9 W9.heap.size 2 _ ns.length (ndCells ns) from e2), ?_⟩
                  rw [HM0.out]
                  exact ⟨e3.os, e3.tape, e3.output, e3.size, e3.block⟩
              · have hr : r = ((⟨0, 0, 0, 0⟩, []), s6.e, s6.off) := by rw [HR7.out, hs7]; exact if_pos hse
                subst hr
                have hfe : (s6.e != 0) = true := by rw [bne_iff_ne]; exact hse
                obtain ⟨c0, c1, c2, c3, c4, cf, hrs⟩ := HN7.out.ps.cells
                obtain ⟨m0c, m1c, m2c, m3c, m4c⟩ := cells5 HRS.out
                obtain ⟨y0, y1, y2, y3, y4⟩ := same5 HRS.out
                have mf := frz HRS.out
                clear hs7
                go_wp2_with fail
                go_region
                all_goals (try go_wp2_with fail)
                all_goals (try simp only [y0, y1, y2, y3, y4])
                all_goals
                  refine bodyPost_ret (pat_res (w := (w7).drew) Tryd.results29 _ m0 [.int .i64 0, .int .i64 0, .int .i64 0, .int .i64 0, .slice none 0 0] rfl rfl HRS.out _ _ rfl rfl) rfl ⟨_, rfl, Rd.none_, ?_⟩
                  rw [HM0.out]
                  exact ⟨HBL.out.os, HBL.out.tape, HBL.out.output, HBL.out.size, HBL.out.block⟩
            · have hkb : (y.kind != 0) = true := by rw [bne_iff_ne]; exact hkd
              have hs7 : s7 = failQ s6 5 y.off := by rw [H7.out]; exact if_pos hkd
              have hse : (failQ s6 5 y.off).e ≠ 0 := failQ_e (by decide)
              obtain ⟨s8, hs8⟩ : ∃ s8, failQ s6 5 y.off = s8 := ⟨_, rfl⟩
              rw [hs8] at hs7 hse
              have HS8 := Lib.hid hs8
              have HS7 := Lib.hid hs7
              clear hkd HM6 HR6 HB6 HN6 hs8 hs7
              go_wp2_with fail
              refine (next_ps w7 rb rb lv v6 s6 xs HN7.out.ps HN7.out.lx (Nat.le_refl _) hk6 (by omega)).mono ?_
              rintro e w8 ⟨he, hb8⟩
              rw [HY.out] at he
              subst he
              have hz8 := hb8.size
              have HN8 := Lib.hid (HN7.out.below (Nat.le_refl _) (by omega) hb8)
              have HR9 := Lib.hid ((hb8.block m0 (by omega)).trans HR8.out)
              have HB8 := Lib.hid (show Below m0 w w8 from ⟨hb8.os.trans HB7.out.os, hb8.tape.trans HB7.out.tape, hb8.output.trans HB7.out.output, Nat.le_trans HB7.out.size hb8.size, fun k hk => (hb8.block k (by omega)).trans (HB7.out.block k hk)⟩)
              clear hb8
              go_wp2_with fail
              refine (fail_ps w8 rb lv v6 s6 5 y.off HN8.out.ps).mono ?_
              rintro e w9 ⟨⟨u9, he⟩, hi9, hg9⟩
              rw [HS8.out] at hi9
              subst he
              have HN9 := Lib.hid (HN8.out.gb (Nat.le_refl _) (by omega) hi9 hg9)
              have HRS := Lib.hid ((hg9.block m0 (by omega) (fun e => by injection e; omega)).trans HR9.out)
              have HBL := Lib.hid (HB8.out.grown hg9 (by omega) (fun k e => by injection e; omega))
              have hs7 : s7 = s8 := HS7.out
              clear hi9 hg9 HM7 HR8 HR9 HB7 HB8 HN7 HN8 HS7 HS8
              have hr : r = ((⟨0, 0, 0, 0⟩, []), s8.e, s8.off) := by rw [HR7.out, hs7]; exact if_pos hse
              subst hr
              have hfe : (s8.e != 0) = true := by rw [bne_iff_ne]; exact hse
              obtain ⟨c0, c1, c2, c3, c4, cf, hrs⟩ := HN9.out.ps.cells
              obtain ⟨m0c, m1c, m2c, m3c, m4c⟩ := cells5 HRS.out
              obtain ⟨y0, y1, y2, y3, y4⟩ := same5 HRS.out
              have mf := frz HRS.out
              clear hs7
              go_wp2_with fail
              go_region
              all_goals (try go_wp2_with fail)
              all_goals (try simp only [y0, y1, y2, y3, y4])
              all_goals
                refine bodyPost_ret (pat_res (w := (w9).drew) Tryd.results29 _ m0 [.int .i64 0, .int .i64 0, .int .i64 0, .int .i64 0, .slice none 0 0] rfl rfl HRS.out _ _ rfl rfl) rfl ⟨_, rfl, Rd.none_, ?_⟩
                rw [HM0.out]
                exact ⟨HBL.out.os, HBL.out.tape, HBL.out.output, HBL.out.size, HBL.out.block⟩
          · have hs5 : s5 = sD := by rw [H5.out]; exact if_neg (fun h => by rcases h with h | h <;> contradiction)
            have HPQ := Lib.hid (show PqAt w wr m0 rb M lv xs s5 #[a, b, cc, d] from hs5 ▸ HQ.out)
            clear hs5 HQ
            have hMq := (Array.getElem?_eq_some_iff.1 HPQ.out.nums).1
            have HND0 := Lib.hid (show NdAt wr wr rb wr.heap.size rb lv (.slice none 0 0) xs s5 [] from ⟨HPQ.out.ps, World.ownsRow_nil _ _ _ _, Kp.refl _ _ _, HPQ.out.lx, Nat.le_refl _⟩)
            go_wp2_with fail
            refine (node_ps xs HEND.out (by omega) HNM.out rb wr.heap.size rb lv (Nat.le_refl _) (by omega) 65 1 s5 [] wr _ (by omega) (by omega) (by omega) hk5 (by simp) HND0.out).mono ?_
            rintro e w6 ⟨⟨u6, he⟩, hl6, v6, hn6⟩
            rw [H6.out] at hl6 hn6
            simp only at hl6 hn6
            subst he
            have hM6 : w6.heap[M]? = some (.cells #[.int .i64 a, .int .i64 b, .int .i64 cc, .int .i64 d] 98 (0, 0)) := (hn6.kp.block M hMq (by omega)).trans (by simpa using HPQ.out.nums)
            have hm6 := (hn6.kp.block m0 (by omega) (by omega)).trans HPQ.out.res
            have hb6 : Below m0 w w6 := ⟨hn6.kp.os.trans HPQ.out.below.os, hn6.kp.tape.trans HPQ.out.below.tape, hn6.kp.output.trans HPQ.out.below.output, Nat.le_trans HPQ.out.below.size hn6.kp.size, fun k hk => (hn6.kp.block k (by omega) (by omega)).trans (HPQ.out.below.block k hk)⟩
            have hz6 := hn6.kp.size
            have HN6 := Lib.hid hn6.here
            have HM6 := Lib.hid hM6
            have HR6 := Lib.hid hm6
            have HB6 := Lib.hid hb6
            have HL6 := Lib.hid hl6
            clear hn6 hM6 hm6 hb6 hl6 z0 z1 z2 z3 zf
            go_wp2_with fail
            refine (next_ps w6 rb rb lv v6 s6 xs HN6.out.ps HN6.out.lx (Nat.le_refl _) hk6 (by omega)).mono ?_
            rintro e w7 ⟨he, hb7⟩
            rw [HY.out] at he
            subst he
            have hz7 := hb7.size
            have HN7 := Lib.hid (HN6.out.below (Nat.le_refl _) (by omega) hb7)
            have HM7 := Lib.hid ((hb7.block M (by omega)).trans HM6.out)
            have HR8 := Lib.hid ((hb7.block m0 (by omega)).trans HR6.out)
            have HB7 := Lib.hid (show Below m0 w w7 from ⟨hb7.os.trans HB6.out.os, hb7.tape.trans HB6.out.tape, hb7.output.trans HB6.out.output, Nat.le_trans HB6.out.size hb7.size, fun k hk => (hb7.block k (by omega)).trans (HB6.out.block k hk)⟩)
            clear hb7
            by_cases hkd : y.kind = 0
            · have hkb : (y.kind != 0) = false := by rw [bne_eq_false_iff_eq]; exact hkd
              have hs7 : s7 = s6 := by rw [H7.out]; exact if_neg (fun h => h hkd)
              have HRS := Lib.hid HR8.out
              have HMS := Lib.hid HM7.out
              have HBL := Lib.hid HB7.out
              clear hkd HM6 HR6 HB6 HN6
              by_cases hse : s6.e = 0
              · have hr : r = ((⟨a, b, cc, d⟩, ns), 0, 0) := by rw [HR7.out, hs7]; exact if_neg (by rw [hse]; decide)
                subst hr
                have hfe : (s6.e != 0) = false := by rw [bne_eq_false_iff_eq]; exact hse
                obtain ⟨A6, c6, hv6⟩ := HN7.out.slice
                subst hv6
                obtain ⟨c0, c1, c2, c3, c4, cf, hrs⟩ := HN7.out.ps.cells
                obtain ⟨z0, z1, z2, z3⟩ := cells4 HMS.out
                have zf := frz HMS.out
                clear hs7
                go_wp2_with fail
                obtain ⟨N, hN⟩ : ∃ N, w7.heap.size = N := ⟨_, rfl⟩
                obtain ⟨W8, hW8⟩ : ∃ W8, w7.alloc (.cells #[.int .i64 a, .int .i64 b, .int .i64 cc, .int .i64 d] 25) = W8 := ⟨_, rfl⟩
                have HN8 := Lib.hid (show NdAt w6 W8 rb _ rb lv _ xs s6 ns from hW8 ▸ HN7.out.alloc (Nat.le_refl _) (by omega) _)
                have hq8 : W8.heap[N]? = some (.cells #[.int .i64 a, .int .i64 b, .int .i64 cc, .int .i64 d] 25 (0, 0)) := by rw [← hW8, ← hN]; exact heap_alloc_last w7 _
                have hr8 : W8.heap[m0]? = some (.cells #[.int .i64 0, .int .i64 0, .int .i64 0, .int .i64 0, .slice none 0 0] 28 (0, 0)) := by rw [← hW8]; exact hpA HRS.out _
                have hb8 : Below m0 w W8 := by rw [← hW8]; exact HBL.out.alloc (by omega) _
                rw [hW8, hN]
                have hNm : m0 < N := by omega
                have hz8 : W8.heap.size = N + 1 := by rw [← hW8, World.size_alloc, hN]
                clear z0 z1 z2 z3 zf c0 c1 c2 c3 c4 cf hrs hW8
                obtain ⟨q0, q1, q2, q3⟩ := cells4 hq8
                obtain ⟨m0c, m1c, m2c, m3c, m4c⟩ := cells5 hr8
                obtain ⟨c0, c1, c2, c3, c4, cf, hrs⟩ := HN8.out.ps.cells
                have mf := frz hr8
                have HRZ := Lib.hid hr8
                have HBZ := Lib.hid hb8
                clear hq8 hr8 hb8
                go_region
                all_goals (try go_wp2_with fail)
                all_goals
                  obtain ⟨W9, hW9⟩ : ∃ W9, ((((W8.setCell ⟨m0, 0, none⟩ (.int .i64 a)).setCell ⟨m0, 1, none⟩ (.int .i64 b)).setCell ⟨m0, 2, none⟩ (.int .i64 cc)).setCell ⟨m0, 3, none⟩ (.int .i64 d)).setCell ⟨m0, 4, none⟩ (.slice A6 ns.length c6) = W9 := ⟨_, rfl⟩
                  have hE := pat_end HRZ.out HN8.out HBZ.out (by omega) (.int .i64 a) (.int .i64 b) (.int .i64 cc) (.int .i64 d)
                  rw [hW9] at hE ⊢
                  obtain ⟨e1, e2, e3⟩ := hE
                  clear hW9
                  refine bodyPost_ret (pat_res (w := W9.drew) (g := m0) (cs := [.int .i64 a, .int .i64 b, .int .i64 cc, .int .i64 d, .slice A6 ns.length c6]) Tryd.results29 _ rfl rfl (show W9.drew.heap[m0]? = _ from e1) _ _ rfl rfl) rfl ⟨_, rfl, (show Rd W9 W9.heap.size 2 _ ns.length (ndCells ns) from e2), ?_⟩
                  rw [HM0.out]
                  exact ⟨e3.os, e3.tape, e3.output, e3.size, e3.block⟩
              · have hr : r = ((⟨0, 0, 0, 0⟩, []), s6.e, s6.off) := by rw [HR7.out, hs7]; exact if_pos hse
                subst hr
                have hfe : (s6.e != 0) = true := by rw [bne_iff_ne]; exact hse
                obtain ⟨c0, c1, c2, c3, c4, cf, hrs⟩ := HN7.out.ps.cells
                obtain ⟨m0c, m1c, m2c, m3c, m4c⟩ := cells5 HRS.out
                obtain ⟨y0, y1, y2, y3, y4⟩ := same5 HRS.out
                have mf := frz HRS.out
                clear hs7
                go_wp2_with fail
                go_region
                all_goals (try go_wp2_with fail)
                all_goals (try simp only [y0, y1, y2, y3, y4])
                all_goals
                  refine bodyPost_ret (pat_res (w := (w7).drew) Tryd.results29 _ m0 [.int .i64 0, .int .i64 0, .int .i64 0, .int .i64 0, .slice none 0 0] rfl rfl HRS.out _ _ rfl rfl) rfl ⟨_, rfl, Rd.none_, ?_⟩
                  rw [HM0.out]
                  exact ⟨HBL.out.os, HBL.out.tape, HBL.out.output, HBL.out.size, HBL.out.block⟩
            · have hkb : (y.kind != 0) = true := by rw [bne_iff_ne]; exact hkd
              have hs7 : s7 = failQ s6 5 y.off := by rw [H7.out]; exact if_pos hkd
              have hse : (failQ s6 5 y.off).e ≠ 0 := failQ_e (by decide)
              obtain ⟨s8, hs8⟩ : ∃ s8, failQ s6 5 y.off = s8 := ⟨_, rfl⟩
              rw [hs8] at hs7 hse
              have HS8 := Lib.hid hs8
              have HS7 := Lib.hid hs7
              clear hkd HM6 HR6 HB6 HN6 hs8 hs7
              go_wp2_with fail
              refine (next_ps w7 rb rb lv v6 s6 xs HN7.out.ps HN7.out.lx (Nat.le_refl _) hk6 (by omega)).mono ?_
              rintro e w8 ⟨he, hb8⟩
              rw [HY.out] at he
              subst he
              have hz8 := hb8.size
              have HN8 := Lib.hid (HN7.out.below (Nat.le_refl _) (by omega) hb8)
              have HR9 := Lib.hid ((hb8.block m0 (by omega)).trans HR8.out)
              have HB8 := Lib.hid (show Below m0 w w8 from ⟨hb8.os.trans HB7.out.os, hb8.tape.trans HB7.out.tape, hb8.output.trans HB7.out.output, Nat.le_trans HB7.out.size hb8.size, fun k hk => (hb8.block k (by omega)).trans (HB7.out.block k hk)⟩)
              clear hb8
              go_wp2_with fail
              refine (fail_ps w8 rb lv v6 s6 5 y.off HN8.out.ps).mono ?_
              rintro e w9 ⟨⟨u9, he⟩, hi9, hg9⟩
              rw [HS8.out] at hi9
              subst he
              have HN9 := Lib.hid (HN8.out.gb (Nat.le_refl _) (by omega) hi9 hg9)
              have HRS := Lib.hid ((hg9.block m0 (by omega) (fun e => by injection e; omega)).trans HR9.out)
              have HBL := Lib.hid (HB8.out.grown hg9 (by omega) (fun k e => by injection e; omega))
              have hs7 : s7 = s8 := HS7.out
              clear hi9 hg9 HM7 HR8 HR9 HB7 HB8 HN7 HN8 HS7 HS8
              have hr : r = ((⟨0, 0, 0, 0⟩, []), s8.e, s8.off) := by rw [HR7.out, hs7]; exact if_pos hse
              subst hr
              have hfe : (s8.e != 0) = true := by rw [bne_iff_ne]; exact hse
              obtain ⟨c0, c1, c2, c3, c4, cf, hrs⟩ := HN9.out.ps.cells
              obtain ⟨m0c, m1c, m2c, m3c, m4c⟩ := cells5 HRS.out
              obtain ⟨y0, y1, y2, y3, y4⟩ := same5 HRS.out
              have mf := frz HRS.out
              clear hs7
              go_wp2_with fail
              go_region
              all_goals (try go_wp2_with fail)
              all_goals (try simp only [y0, y1, y2, y3, y4])
              all_goals
                refine bodyPost_ret (pat_res (w := (w9).drew) Tryd.results29 _ m0 [.int .i64 0, .int .i64 0, .int .i64 0, .int .i64 0, .slice none 0 0] rfl rfl HRS.out _ _ rfl rfl) rfl ⟨_, rfl, Rd.none_, ?_⟩
                rw [HM0.out]
                exact ⟨HBL.out.os, HBL.out.tape, HBL.out.output, HBL.out.size, HBL.out.block⟩
  · have heb : (er != 0) = true := by rw [bne_iff_ne]; exact her
    have hR : r = ((⟨0, 0, 0, 0⟩, []), er, at_) := by rw [← HR.out, parsePt, HSC.out]; exact if_pos her
    subst hR
    subst he
    obtain ⟨z0, z1, z2, z3, z4⟩ := cells5 HRES.out
    obtain ⟨y0, y1, y2, y3, y4⟩ := same5 HRES.out
    have zf := frz HRES.out
    clear her
    go_wp2_with fail
    try simp only [y0, y1, y2, y3, y4]
    refine bodyPost_ret (pat_res Tryd.results29 _ w.heap.size [.int .i64 0, .int .i64 0, .int .i64 0, .int .i64 0, .slice none 0 0] rfl rfl HRES.out _ _ rfl rfl) rfl ⟨_, rfl, Rd.none_, HBW.out⟩

end Go.Proofs.YtbmcfodhjibooaaDoor
