/-
  PatternRow walked.
-/
import Derived.Test.YtbmcfodhjibooaaDoorPsB
import Derived.Test.YtbmcfodhjibooaaDoorPqC
import Derived.Lib.QuietBelow
import Derived.BigQuiet
import Derived.Deep.Cut
namespace Saw
theorem boardsOf_len : ∀ (m i : Nat), (boardsOf i m).length = m
  | 0, _ => rfl
  | m + 1, i => by rw [boardsOf, List.length_cons, boardsOf_len]
theorem boardsOf_at : ∀ (m i j : Nat) (x : List Nd), (boardsOf i m)[j]? = some x → j < m ∧ x = [⟨1, (((i + j) % 16 : Nat) : Int)⟩]
  | 0, i, j, x, h => by simp [boardsOf] at h
  | m + 1, i, 0, x, h => by
    rw [boardsOf, List.getElem?_cons_zero] at h
    injection h with h
    exact ⟨by omega, h.symm⟩
  | m + 1, i, j + 1, x, h => by
    rw [boardsOf, List.getElem?_cons_succ] at h
    obtain ⟨h1, h2⟩ := boardsOf_at m (i + 1) j x h
    exact ⟨by omega, by rw [h2, show i + 1 + j = i + (j + 1) by omega]⟩
theorem leavesOf_len (r : Rc) (ax : Int) : ∀ (sp : List (Int × Int)) (i : Nat), (leavesOf r ax i sp).length = sp.length
  | [], _ => rfl
  | s :: sp, i => by rw [leavesOf, List.length_cons, List.length_cons, leavesOf_len]
theorem leavesOf_at (r : Rc) (ax : Int) : ∀ (sp : List (Int × Int)) (i j : Nat) (s : Int × Int), sp[j]? = some s → (leavesOf r ax i sp)[j]? = some ⟨withP r ax s.1 s.2, (((i + j) % 16 : Nat) : Int)⟩
  | [], i, j, s, h => by simp at h
  | t :: sp, i, 0, s, h => by
    rw [List.getElem?_cons_zero] at h
    injection h with h
    subst h
    rfl
  | t :: sp, i, j + 1, s, h => by
    rw [List.getElem?_cons_succ] at h
    rw [leavesOf, List.getElem?_cons_succ, leavesOf_at r ax sp (i + 1) j s h, show i + 1 + j = i + (j + 1) by omega]
theorem filter_at (p : Lf → Bool) : ∀ (l : List Lf) (i : Nat) (x : Lf), l[i]? = some x → p x = true → (l.filter p)[((l.take i).filter p).length]? = some x
  | [], i, x, h, _ => by simp at h
  | y :: l, 0, x, h, hp => by
    rw [List.getElem?_cons_zero] at h
    injection h with h
    subst h
    rw [List.take_zero, List.filter_cons, if_pos hp]
    rfl
  | y :: l, i + 1, x, h, hp => by
    rw [List.getElem?_cons_succ] at h
    have ih := filter_at p l i x h hp
    rw [List.take_succ_cons, List.filter_cons, List.filter_cons]
    by_cases hy : p y = true
    · rw [if_pos hy, if_pos hy, List.length_cons, List.getElem?_cons_succ]
      exact ih
    · rw [if_neg hy, if_neg hy]
      exact ih
theorem filter_step (p : Lf → Bool) (l : List Lf) (i : Nat) (x : Lf) (h : l[i]? = some x) : ((l.take (i + 1)).filter p).length = ((l.take i).filter p).length + (if p x = true then 1 else 0) := by
  rw [List.take_add_one, h, List.filter_append, List.length_append]
  congr 1
  by_cases hp : p x = true
  · simp [hp]
  · simp [hp]
theorem rowGo_bad (axis kerf hi : Int) : ∀ (sp : List (Int × Int)) (ps : List (List Nd)) (edge : Int) (ended : Bool) (acc : List Nd), (rowGo axis kerf hi sp ps edge ended acc).2 ≠ 0 → (rowGo axis kerf hi sp ps edge ended acc).1 = []
  | [], ps, edge, ended, acc, h => by
    rw [rowGo] at h ⊢
    unfold rowEnd at h ⊢
    by_cases h1 : 127 < (if ended then acc else acc ++ [⟨0, 0⟩]).length
    · rw [if_pos h1]
    · rw [if_neg h1] at h
      exact absurd rfl h
  | s :: sp, ps, edge, ended, acc, h => by
    rw [rowGo] at h ⊢
    by_cases h1 : s.2 ≤ s.1
    · rw [if_pos h1]
    · rw [if_neg h1] at h ⊢
      by_cases h2 : ended = true ∨ (s.1 ≠ edge ∧ s.1 < edge + kerf + 1)
      · rw [if_pos h2]
      · rw [if_neg h2] at h ⊢
        by_cases h3 : hi < s.2
        · rw [if_pos h3]
        · rw [if_neg h3] at h ⊢
          exact rowGo_bad axis kerf hi sp _ _ _ _ h
theorem rowP_bad {r : Rc} {axis kerf : Int} {sp : List (Int × Int)} {ps : List (List Nd)} (h : (rowP r axis kerf sp ps).2 ≠ 0) : (rowP r axis kerf sp ps).1 = [] := by
  unfold rowP at h ⊢
  by_cases h1 : ripP axis = false
  · rw [if_pos h1]
  · rw [if_neg h1] at h ⊢
    by_cases h2 : frameP r = false ∨ sp.length ≠ ps.length
    · rw [if_pos h2]
    · rw [if_neg h2] at h ⊢
      by_cases h3 : kerf < 0 ∨ 20 < kerf
      · rw [if_pos h3]
      · rw [if_neg h3] at h ⊢
        exact rowGo_bad _ _ _ _ _ _ _ _ h
end Saw
namespace Go.Proofs.YtbmcfodhjibooaaDoor
open Go.RowKit Saw Go.Sort

theorem nsl_infoE : (Tryd.prog.info? 26).map (fun i => (i.zero, i.size, i.bytes)) = some (some (.slice none 0 0), 1, 24) := by kernel_rfl
/-- The parts while they are put together; w1: the world ahead of them. -/
structure RwSt (w1 W : World) (v : Value) (k : Nat) (vs : List Value) : Prop where
  own : W.ownsRow w1.heap.size 26 1 v k vs
  els : ∀ i, i < k → ∃ g, vs[i]? = some (.slice (some ⟨g, 0, none⟩) 1 1) ∧ W.heap[g]? = some (.cells #[.int .i64 1, .int .i64 ((i : Int) % 16)] 64 (0, 0))
  bel : Below w1.heap.size w1 W
theorem RwSt.step {w1 W W8 : World} {v v' : Value} {k : Nat} {vs : List Value} {o : Obj} (h : RwSt w1 W v k vs) (hg : ((W.alloc (.cells #[.int .i64 1, .int .i64 ((k : Int) % 16)] 64)).alloc o).grownBy W8 v.ownBlock) (hown : W8.ownsRow w1.heap.size 26 1 v' (k + 1) (vs ++ [.slice (some ⟨W.heap.size, 0, none⟩) 1 1])) :
    RwSt w1 W8 v' (k + 1) (vs ++ [.slice (some ⟨W.heap.size, 0, none⟩) 1 1]) := by
  have hlen : vs.length = k := by have := h.own.1; omega
  have keep : ∀ (g : Nat) (cs : Array Value), W.heap[g]? = some (.cells cs 64 (0, 0)) → W8.heap[g]? = some (.cells cs 64 (0, 0)) := by
    intro g cs hgc
    have hlt := (Array.getElem?_eq_some_iff.1 hgc).1
    refine (hg.block g (by rw [World.size_alloc, World.size_alloc]; omega) (fun e => ?_)).trans (hpA (hpA hgc _) _)
    obtain ⟨_, cur, hcur⟩ := own_at h.own e.symm
    rw [hcur] at hgc
    injection hgc with hgc
    injection hgc with _ h2 _
    exact absurd h2 (by decide)
  have hb2 : Below w1.heap.size w1 ((W.alloc (.cells #[.int .i64 1, .int .i64 ((k : Int) % 16)] 64)).alloc o) := (h.bel.alloc h.bel.size _).alloc (by rw [World.size_alloc]; have := h.bel.size; omega) _
  refine ⟨hown, fun i hi => ?_, hb2.grown hg hb2.size (fun k e => (own_at h.own e).1)⟩
  by_cases hik : i < k
  · obtain ⟨g, h1, h2⟩ := h.els i hik
    exact ⟨g, by rw [List.getElem?_append_left (by omega)]; exact h1, keep g _ h2⟩
  · obtain rfl : i = k := by omega
    refine ⟨W.heap.size, by rw [List.getElem?_append_right (by omega), hlen, Nat.sub_self]; rfl, ?_⟩
    refine (hg.block W.heap.size (by rw [World.size_alloc, World.size_alloc]; omega) (fun e => ?_)).trans (hpA (heap_alloc_last W _) o)
    obtain ⟨_, cur, hcur⟩ := own_at h.own e.symm
    have := (Array.getElem?_eq_some_iff.1 hcur).1
    omega
theorem RwSt.parts {w1 W : World} {v : Value} {k : Nat} {vs : List Value} (h : RwSt w1 W v k vs) : RdPs W W.heap.size v (boardsOf 0 k) := by
  refine ⟨vs, by rw [boardsOf_len]; exact Rd.of_own h.own, fun i x hx => ?_⟩
  obtain ⟨h1, rfl⟩ := boardsOf_at k 0 i x hx
  obtain ⟨g, h2, h3⟩ := h.els i h1
  exact ⟨_, h2, rd_blk (cs := ndCells [⟨1, (((0 + i) % 16 : Nat) : Int)⟩]) (by rw [Nat.zero_add, Int.natCast_emod]; exact h3) rfl (by decide)⟩
theorem sl_memV (v : Value) (hv : ∃ g, v = .slice (some ⟨g, 0, none⟩) 1 1) : ∀ u ∈ [v], u.oneCell' = true := by
  obtain ⟨g, rfl⟩ := hv
  intro u hu
  rw [List.mem_singleton.1 hu]
  rfl

set_option maxRecDepth 100000 in
set_option maxHeartbeats 8000000 in
theorem patternRow_walk (r : Rc) (sp : List (Int × Int)) (A : Option Addr) (c : Nat) (n0 kerf : Int) (w : World) (_hr : True) (hsp : RdSp w w.heap.size (.slice A sp.length c) sp) (_hn : I64 n0 ∧ I64 kerf) (hv : VarsX w) :
    Calls Tryd.prog 8 #[.agg #[.int .i64 r.xa, .int .i64 r.xb, .int .i64 r.ya, .int .i64 r.yb], .slice A sp.length c, .agg #[.int .i64 n0, .int .i64 kerf]] w (LawX w) := by
  obtain ⟨_, _, _, _, hml⟩ := hsp.form
  unfold maxLen at hml
  have HV := Lib.hid hv
  have HSP := Lib.hid hsp
  obtain ⟨W0, hW0⟩ : ∃ W0, (w.alloc (.cells #[.int .i64 r.xa, .int .i64 r.xb, .int .i64 r.ya, .int .i64 r.yb] 25)).alloc (.cells #[.int .i64 n0, .int .i64 kerf] 62) = W0 := ⟨_, rfl⟩
  have hb0 : Below w.heap.size w W0 := by rw [← hW0]; repeat (first | exact Below.refl _ _ | apply bel_alloc)
  have hr0 : W0.heap[w.heap.size]? = some (.cells #[.int .i64 r.xa, .int .i64 r.xb, .int .i64 r.ya, .int .i64 r.yb] 25 (0, 0)) := by rw [← hW0]; exact hpA (heap_alloc_last w _) _
  have hn0 : W0.heap[w.heap.size + 1]? = some (.cells #[.int .i64 n0, .int .i64 kerf] 62 (0, 0)) := by
    have h := heap_alloc_last (w.alloc (.cells #[.int .i64 r.xa, .int .i64 r.xb, .int .i64 r.ya, .int .i64 r.yb] 25)) (.cells #[.int .i64 n0, .int .i64 kerf] 62)
    rw [World.size_alloc, hW0] at h
    exact h
  have HB0 := Lib.hid hb0
  have HR0 := Lib.hid hr0
  obtain ⟨q0, q1⟩ := cells2 hn0
  clear hb0 hr0 hn0 hsp hv
  by_cases h40 : 40 < (sp.length : Int)
  · go_enter Tryd.func8, Tryd.ntmps8
    go_wp2_with fail
    refine (awake_any W0 (HV.out.next HB0.out)).mono ?_
    rintro e w1 ⟨he, hb1⟩
    subst he
    have HB1 := Lib.hid (bel_call HB0.out hb1)
    clear hb1
    go_wp2_with fail
    go_ret
    exact ⟨rfl, HB1.out⟩
  go_enter Tryd.func8, Tryd.ntmps8
  go_wp2_with fail
  go_quiet (fail)
  generalize hW1 : W0.drewN nq = W1
  have HB1 := Lib.hid (show Below w.heap.size w W1 from hW1 ▸ below_drewNn HB0.out nq)
  have HR1 := Lib.hid (show W1.heap[w.heap.size]? = some (.cells #[.int .i64 r.xa, .int .i64 r.xb, .int .i64 r.ya, .int .i64 r.yb] 25 (0, 0)) from hW1 ▸ HR0.out)
  have s0 : W1.cell? ⟨w.heap.size + 1, 0, none⟩ = some (.int .i64 n0) := hW1 ▸ q0
  clear hW1 q0 q1 hW0
  go_upto_if 27 with fail
  go_cut [7] from 18 (fun x7 wx => ∃ ax : Int, x7 = .int .i64 ax ∧ (ax = 2 ∨ ax = 3) ∧ wx = W1)
  case first =>
    go_wp2_with fail
    all_goals go_meet
    all_goals exact ⟨_, rfl, by simp, rfl⟩
  case rest =>
    obtain ⟨ax, rfl, hax, rfl⟩ := hcut
    have HAX := Lib.hid hax
    obtain ⟨i0, hi0, hz0, hz1, hz2⟩ := info_parts nsl_infoE
    have HS1 := Lib.hid (show RwSt wc wc (.slice none 0 0) 0 [] from ⟨⟨rfl, .inl ⟨rfl, rfl⟩⟩, fun i hi => absurd hi (by omega), Below.refl _ _⟩)
    clear hax s0
    go_wp2_with fail
    go_loopw [9, 10] (fun av iv wr => ∃ (k : Nat) (vs : List Value), iv = .int .i64 k ∧ k ≤ sp.length ∧ RwSt wc wr av k vs) (fun _ i _ => sp.length - (intOf i).toNat)
    case atStart => exact ⟨0, [], rfl, by omega, HS1.out⟩
    case round =>
      obtain ⟨k, vs, rfl, hkl, hst⟩ := hrel
      have HST := Lib.hid hst
      obtain ⟨A2, c2, rfl, _, _⟩ := Rd.form_ (Rd.of_own hst.own)
      clear hst HS1
      by_cases hlt : k < sp.length
      · have hk40 : k ≤ 40 := by omega
        have hk0 : (0 : Int) ≤ (k : Int) := by omega
        have HW1 := HST.out.bel.size
        go_wp2_with (at_builtin; refine wpList_append_lies _ (by rfl) (.tmp 34) (.tmp 39) 46 (by rfl) wc.heap.size 26 i0 _ 1 24 Tryd.underlying46 hi0 hz0 hz1 hz2 rfl (by omega) (.slice A2 k c2) k vs (by rfl) (World.ownsRow.alloc (World.ownsRow.alloc HST.out.own _) _) ⟨wr.heap.size + 1, 0, none⟩ 1 1 [.slice (some ⟨wr.heap.size, 0, none⟩) 1 1] (by rfl) (by rfl) (World.news_of_block (cs := #[.slice (some ⟨wr.heap.size, 0, none⟩) 1 1]) (t := 26) (fr := (0, 0)) (by have h := heap_alloc_last (wr.alloc (.cells #[.int .i64 1, .int .i64 ((k : Int) % 16)] 64)) (.cells #[.slice (some ⟨wr.heap.size, 0, none⟩) 1 1] 26); rw [World.size_alloc] at h; exact h)) (sl_memV _ ⟨_, rfl⟩) (by omega) (by simp only [maxLen]; omega) (by omega) (by rw [World.size_alloc, World.size_alloc]; omega) _ rfl ?_; intro g7 cap7 w8 hown7 hgrow hat hlt7; have HO7 := Lib.hid hown7; have HG7 := Lib.hid hgrow; clear hown7 hgrow hat hlt7)
        have HF := Lib.hid (HST.out.step HG7.out HO7.out)
        exact ⟨⟨k + 1, _, by go_num, by omega, HF.out⟩, by simp [intOf]; omega⟩
      · have hks : k = sp.length := by omega
        subst hks
        have HPS := Lib.hid HST.out.parts
        have HB2 := Lib.hid (bel_call HB1.out HST.out.bel)
        have HR2 := Lib.hid ((HST.out.bel.block w.heap.size (Array.getElem?_eq_some_iff.1 HR1.out).1).trans HR1.out)
        obtain ⟨p0, p1, p2, p3⟩ := cells4 HR2.out
        obtain ⟨nodes, e0, hro⟩ : ∃ n e, rowP r ax kerf sp (boardsOf 0 sp.length) = (n, e) := ⟨_, _, rfl⟩
        have HRO := Lib.hid hro
        clear hro HST
        go_wp2_with fail
        refine (row_any r ax kerf sp (boardsOf 0 sp.length) _ _ wr (HSP.out.next HB2.out) HPS.out (by omega) (fun x hx => by
          obtain ⟨j, hj⟩ := List.mem_iff_getElem?.1 hx
          obtain ⟨_, rfl⟩ := boardsOf_at _ _ _ _ hj
          exact (by decide : 1 ≤ 200)) (by rw [boardsOf_len]; omega)).mono ?_
        rintro e w2 ⟨v2, he, hn2, hb2⟩
        rw [HRO.out] at he hn2
        subst he
        obtain ⟨A3, c3, rfl, _, hml3⟩ := hn2.form
        simp only at hml3
        unfold maxLen at hml3
        have HN3 := Lib.hid hn2
        have HB3 := Lib.hid (bel_call HB2.out hb2)
        have HR3 := Lib.hid ((hb2.block w.heap.size (Array.getElem?_eq_some_iff.1 HR2.out).1).trans HR2.out)
        clear hb2 hn2 p0 p1 p2 p3 HB2 HR2 HPS
        by_cases he0 : e0 = 0
        · subst he0
          obtain ⟨hl2, hfil, _⟩ := row_leaves r ax kerf sp nodes HRO.out
          obtain ⟨LA, e1, hl1⟩ : ∃ LA e, leavesP r nodes kerf = (LA, e) := ⟨_, _, rfl⟩
          rw [hl1] at hl2 hfil
          simp only at hl2 hfil
          subst hl2
          have HL1 := Lib.hid hl1
          have HFIL := Lib.hid hfil
          clear hl1 hfil
          obtain ⟨p0, p1, p2, p3⟩ := cells4 HR3.out
          go_wp2_with fail
          refine (leaves_any r nodes (.slice A3 nodes.length c3) kerf w2 HN3.out).mono ?_
          rintro e w3 ⟨v3, he, hl3, hb3⟩
          rw [HL1.out] at he hl3
          subst he
          obtain ⟨A4, c4, rfl, _, hml4⟩ := Rd.form_ hl3
          simp only at hml4
          unfold maxLen at hml4
          have HL3 := Lib.hid (show Rd w3 w3.heap.size 5 (.slice A4 LA.length c4) LA.length (lfsCells LA) from hl3)
          have HB4 := Lib.hid (bel_call HB3.out hb3)
          have HR4 := Lib.hid ((hb3.block w.heap.size (Array.getElem?_eq_some_iff.1 HR3.out).1).trans HR3.out)
          clear hb3 hl3 p0 p1 p2 p3 HB3 HR3 HN3
          go_wp2_with fail
          go_loopw [15, 16] (fun kv iv wr => ∃ i : Nat, kv = .int .i64 ((((LA.take i).filter isBd).length : Nat) : Int) ∧ iv = .int .i64 i ∧ i ≤ LA.length ∧ Below w3.heap.size w3 wr) (fun _ i _ => LA.length - (intOf i).toNat)
          case atStart => exact ⟨0, rfl, rfl, by omega, Below.refl _ _⟩
          case round =>
            obtain ⟨i, rfl, rfl, hil, hbw⟩ := hrel
            have HBW := Lib.hid hbw
            have HRW := Lib.hid ((hbw.block w.heap.size (Array.getElem?_eq_some_iff.1 HR4.out).1).trans HR4.out)
            obtain ⟨K, hK⟩ : ∃ K, ((LA.take i).filter isBd).length = K := ⟨_, rfl⟩
            have HK := Lib.hid hK
            rw [hK]
            have hK0 : (0 : Int) ≤ (K : Int) := by omega
            clear hK hbw
            by_cases hlt : i < LA.length
            · obtain ⟨x, hn⟩ : ∃ n, LA[i]? = some n := ⟨_, List.getElem?_eq_getElem hlt⟩
              have f1 : (0 : Int) ≤ (i : Int) := by omega
              have f2 : (i : Int) < (LA.length : Int) := by omega
              have HSTEP := Lib.hid (filter_step isBd LA i x hn)
              by_cases hpd : x.prod < 0
              · have HZ := Lib.hid (show ((LA.take (i + 1)).filter isBd).length = K by rw [HSTEP.out, HK.out, if_neg (by unfold isBd; rw [decide_eq_true_eq]; omega)]; rfl)
                obtain ⟨b1, o1, rfl, hb1, x0, x1, x2, x3, x4⟩ := Rd.lf_at (Rd.below HL3.out HBW.out) hn
                have hbr : b1 < wr.heap.size := Nat.lt_of_lt_of_le hb1 HBW.out.size
                clear hn hb1
                go_wp2_with fail
                exact ⟨⟨i + 1, by rw [HZ.out], by go_num, by omega, HBW.out⟩, by simp [intOf]; omega⟩
              · have hbd : isBd x = true := by unfold isBd; rw [decide_eq_true_eq]; omega
                have HZ := Lib.hid (show ((LA.take (i + 1)).filter isBd).length = K + 1 by rw [HSTEP.out, HK.out, if_pos hbd])
                have hfx := filter_at isBd LA i x hn hbd
                rw [HFIL.out, HK.out] at hfx
                have hKs : K < sp.length := by have := (List.getElem?_eq_some_iff.1 hfx).1; rw [leavesOf_len] at this; exact this
                obtain ⟨s, hs⟩ : ∃ s, sp[K]? = some s := ⟨_, List.getElem?_eq_getElem hKs⟩
                rw [leavesOf_at r ax sp 0 K s hs] at hfx
                injection hfx with hxe
                rw [Nat.zero_add] at hxe
                have hxe := hxe.symm
                have g1 : (K : Int) < (sp.length : Int) := by omega
                have g2 : ¬ ((K : Int) % 16 < 0) := by omega
                have g3 : K ≤ 40 := by omega
                obtain ⟨p0, p1, p2, p3⟩ := cells4 HRW.out
                have hNw : w.heap.size < wr.heap.size := (Array.getElem?_eq_some_iff.1 HRW.out).1
                clear hpd hbd hKs HSTEP
                rcases HAX.out with hax | hax
                · subst hax
                  have hx : LA[i]? = some ⟨⟨s.1, s.2, r.ya, r.yb⟩, (K : Int) % 16⟩ := by rw [hn, hxe, Int.natCast_emod]; rfl
                  clear hn hxe
                  obtain ⟨b1, o1, rfl, hb1, x0, x1, x2, x3, x4⟩ := Rd.lf_at (Rd.below HL3.out HBW.out) hx
                  (try simp only at x0 x1 x2 x3 x4)
                  obtain ⟨b2, o2, rfl, hb2, y0, y1⟩ := (HSP.out.below (HB4.out.trans (HBW.out.mono HB4.out.size))).at_ hs
                  (try simp only at y0 y1)
                  have hbr : b1 < wr.heap.size := Nat.lt_of_lt_of_le hb1 HBW.out.size
                  have hbs : b2 < wr.heap.size := Nat.lt_of_lt_of_le hb2 (Nat.le_trans HB4.out.size HBW.out.size)
                  clear hb1 hb2 hx hs
                  go_upto_region 28 with fail
                  obtain ⟨W7, hW7⟩ : ∃ W, wr.alloc (.cells #[.int .i64 s.1, .int .i64 s.2, .int .i64 r.ya, .int .i64 r.yb, .int .i64 ((K : Int) % 16)] 59) = W := ⟨_, rfl⟩
                  have hb7 := bel_alloc (ob := .cells #[.int .i64 s.1, .int .i64 s.2, .int .i64 r.ya, .int .i64 r.yb, .int .i64 ((K : Int) % 16)] 59) (Below.refl wr.heap.size wr)
                  have hx7 := heap_alloc_last wr (.cells #[.int .i64 s.1, .int .i64 s.2, .int .i64 r.ya, .int .i64 r.yb, .int .i64 ((K : Int) % 16)] 59)
                  rw [hW7] at hb7 hx7 ⊢
                  have X0 := (hb7.cell (p := ⟨b1, o1 + i * 5, none⟩) hbr).trans x0
                  have X1 := (hb7.cell (p := ⟨b1, o1 + i * 5 + 1, none⟩) hbr).trans x1
                  have X2 := (hb7.cell (p := ⟨b1, o1 + i * 5 + 2, none⟩) hbr).trans x2
                  have X3 := (hb7.cell (p := ⟨b1, o1 + i * 5 + 3, none⟩) hbr).trans x3
                  have X4 := (hb7.cell (p := ⟨b1, o1 + i * 5 + 4, none⟩) hbr).trans x4
                  obtain ⟨G, hG⟩ : ∃ G, wr.heap.size = G := ⟨_, rfl⟩
                  rw [hG] at hx7 ⊢
                  obtain ⟨z0, z1, z2, z3, z4⟩ := cells5 hx7
                  have HB7 := Lib.hid (HBW.out.trans (hb7.mono HBW.out.size))
                  clear hx7 hb7 hW7 hG x0 x1 x2 x3 x4 y0 y1 p0 p1 p2 p3 hbr hbs hNw
                  go_quiet (fail)
                  generalize hW8 : W7.drewN nq = W8
                  have HB8 := Lib.hid (show Below w3.heap.size w3 W8 from hW8 ▸ below_drewNn HB7.out nq)
                  clear hW8 X0 X1 X2 X3 X4 z0 z1 z2 z3 z4
                  go_wp2_with fail
                  exact ⟨⟨i + 1, by rw [HZ.out]; go_num, by go_num, by omega, HB8.out⟩, by simp [intOf]; omega⟩
                · subst hax
                  have hx : LA[i]? = some ⟨⟨r.xa, r.xb, s.1, s.2⟩, (K : Int) % 16⟩ := by rw [hn, hxe, Int.natCast_emod]; rfl
                  clear hn hxe
                  obtain ⟨b1, o1, rfl, hb1, x0, x1, x2, x3, x4⟩ := Rd.lf_at (Rd.below HL3.out HBW.out) hx
                  (try simp only at x0 x1 x2 x3 x4)
                  obtain ⟨b2, o2, rfl, hb2, y0, y1⟩ := (HSP.out.below (HB4.out.trans (HBW.out.mono HB4.out.size))).at_ hs
                  (try simp only at y0 y1)
                  have hbr : b1 < wr.heap.size := Nat.lt_of_lt_of_le hb1 HBW.out.size
                  have hbs : b2 < wr.heap.size := Nat.lt_of_lt_of_le hb2 (Nat.le_trans HB4.out.size HBW.out.size)
                  clear hb1 hb2 hx hs
                  go_upto_region 28 with fail
                  obtain ⟨W7, hW7⟩ : ∃ W, wr.alloc (.cells #[.int .i64 r.xa, .int .i64 r.xb, .int .i64 s.1, .int .i64 s.2, .int .i64 ((K : Int) % 16)] 59) = W := ⟨_, rfl⟩
                  have hb7 := bel_alloc (ob := .cells #[.int .i64 r.xa, .int .i64 r.xb, .int .i64 s.1, .int .i64 s.2, .int .i64 ((K : Int) % 16)] 59) (Below.refl wr.heap.size wr)
                  have hx7 := heap_alloc_last wr (.cells #[.int .i64 r.xa, .int .i64 r.xb, .int .i64 s.1, .int .i64 s.2, .int .i64 ((K : Int) % 16)] 59)
                  rw [hW7] at hb7 hx7 ⊢
                  have X0 := (hb7.cell (p := ⟨b1, o1 + i * 5, none⟩) hbr).trans x0
                  have X1 := (hb7.cell (p := ⟨b1, o1 + i * 5 + 1, none⟩) hbr).trans x1
                  have X2 := (hb7.cell (p := ⟨b1, o1 + i * 5 + 2, none⟩) hbr).trans x2
                  have X3 := (hb7.cell (p := ⟨b1, o1 + i * 5 + 3, none⟩) hbr).trans x3
                  have X4 := (hb7.cell (p := ⟨b1, o1 + i * 5 + 4, none⟩) hbr).trans x4
                  obtain ⟨G, hG⟩ : ∃ G, wr.heap.size = G := ⟨_, rfl⟩
                  rw [hG] at hx7 ⊢
                  obtain ⟨z0, z1, z2, z3, z4⟩ := cells5 hx7
                  have HB7 := Lib.hid (HBW.out.trans (hb7.mono HBW.out.size))
                  clear hx7 hb7 hW7 hG x0 x1 x2 x3 x4 y0 y1 p0 p1 p2 p3 hbr hbs hNw
                  go_quiet (fail)
                  generalize hW8 : W7.drewN nq = W8
                  have HB8 := Lib.hid (show Below w3.heap.size w3 W8 from hW8 ▸ below_drewNn HB7.out nq)
                  clear hW8 X0 X1 X2 X3 X4 z0 z1 z2 z3 z4
                  go_wp2_with fail
                  exact ⟨⟨i + 1, by rw [HZ.out]; go_num, by go_num, by omega, HB8.out⟩, by simp [intOf]; omega⟩
            · have hke : i = LA.length := by omega
              have hKe : ((K : Int) == (sp.length : Int)) = true := by
                rw [beq_iff_eq, ← HK.out, hke, List.take_length, HFIL.out, leavesOf_len]
              have HB5 := Lib.hid (bel_call HB4.out HBW.out)
              clear hke
              go_wp2_with fail
              refine (awake_any wr (HV.out.next HB5.out)).mono ?_
              rintro e w6 ⟨he, hb6⟩
              subst he
              have HB6 := Lib.hid (bel_call HB5.out hb6)
              clear hb6
              go_wp2_with fail
              go_ret
              exact ⟨rfl, HB6.out⟩
        · have hnl := rowP_bad (r := r) (axis := ax) (kerf := kerf) (sp := sp) (ps := boardsOf 0 sp.length) (by rw [HRO.out]; exact he0)
          rw [HRO.out] at hnl
          simp only at hnl
          subst hnl
          have hne : (e0 != 0) = true := by rw [bne_iff_ne]; exact he0
          clear he0
          go_wp2_with fail
          refine (awake_any w2 (HV.out.next HB3.out)).mono ?_
          rintro e w4 ⟨he, hb4⟩
          subst he
          have HB4 := Lib.hid (bel_call HB3.out hb4)
          clear hb4
          go_wp2_with fail
          go_ret
          exact ⟨rfl, HB4.out⟩
end Go.Proofs.YtbmcfodhjibooaaDoor
