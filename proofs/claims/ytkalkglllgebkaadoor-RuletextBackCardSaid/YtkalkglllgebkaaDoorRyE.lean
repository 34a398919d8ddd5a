/-
  The contract of ruletext.Parse.
-/
import Derived.Test.YtkalkglllgebkaaDoorRyD
import Derived.Deep.RegionHeld3
namespace Saw
section
variable {xs : List Lx} {n k : Nat} {acc : List Rl} {R : List Rl × Int × Int}
theorem rules_end (h : rulesE xs (n + 1) k acc = R) (h0 : (lxAt xs k).kind = 0) : (acc, (0 : Int), (0 : Int)) = R := by
  rw [rulesE, if_pos h0] at h; exact h
theorem rules_full (h : rulesE xs (n + 1) k acc = R) (h0 : (lxAt xs k).kind ≠ 0) (h1 : isWd xs k gradeW = true) (h2 : acc.length = 32) : (([] : List Rl), (4 : Int), (lxAt xs k).off) = R := by
  rw [rulesE, if_neg h0, if_pos ⟨h1, h2⟩] at h; exact h
theorem rules_bad (h : rulesE xs (n + 1) k acc = R) (h0 : (lxAt xs k).kind ≠ 0) (h1 : ¬ (isWd xs k gradeW = true ∧ acc.length = 32)) {er off : Int} (h2 : ruleE xs k = .inr (er, off)) : (([] : List Rl), er, off) = R := by
  rw [rulesE, if_neg h0, if_neg h1, h2] at h; exact h
theorem rules_more (h : rulesE xs (n + 1) k acc = R) (h0 : (lxAt xs k).kind ≠ 0) (h1 : ¬ (isWd xs k gradeW = true ∧ acc.length = 32)) {x : Rl} {k' : Nat} (h2 : ruleE xs k = .inl (x, k')) : rulesE xs n k' (acc ++ [x]) = R := by
  rw [rulesE, if_neg h0, if_neg h1, h2] at h; exact h
end
theorem rule_grade {xs : List Lx} {k k' : Nat} {x : Rl} (h : ruleE xs k = .inl (x, k')) : isWd xs k gradeW = true := by
  unfold ruleE at h
  by_cases h1 : isWd xs k gradeW = false
  · rw [if_pos h1] at h; cases h
  · simpa using h1
end Saw
namespace Go.Proofs.YtkalkglllgebkaaDoor
open Go.RowKit Saw Go.Sort

theorem info_rl5 : (Tryd.prog.info? 58).map (fun i => (i.zero, i.size, i.bytes)) = some (some (.agg #[.int .i64 0, .int .i64 0, .int .i64 0, .string ⟨#[]⟩, .slice none 0 0]), 5, 64) := by kernel_rfl
theorem RdXs.setO {W : World} {rb g base i : Nat} {v u : Value} {xs : List Lx} (h : RdXs W rb v xs) (hv : VGe base v) (hg : g < base) : RdXs (W.setCell ⟨g, i, none⟩ u) rb v xs := by
  obtain ⟨h1, h2, A, c, rfl, hc, h3⟩ := h
  refine ⟨h1, h2, A, c, rfl, hc, fun hn => ?_⟩
  obtain ⟨b, off, rfl, hb, hcell⟩ := h3 hn
  have hge := hv b off none _ _ rfl
  exact ⟨b, off, rfl, hb, fun j u hu => (World.cell?_of_block (Below.heap_setCell _ _ _ _ (by show b ≠ g; omega))).trans (hcell j u hu)⟩
theorem RdXs.row_ {W W' : World} {rb : Nat} {v : Value} {xs : List Lx} {row : Option Nat} (h : RdXs W rb v xs) (hg : W.grownBy W' row) (hr : ∀ g, row = some g → rb ≤ g) (hs : rb ≤ W.heap.size) : RdXs W' rb v xs :=
  h.keep fun p hp => World.cell?_of_block (hg.block p.block (Nat.lt_of_lt_of_le hp hs) (fun e => by have := hr _ e.symm; omega))

theorem rl_mem (x : Rl) {sv : Value} (h1 : sv.oneCell' = true) : ∀ v ∈ rlCells x sv, v.oneCell' = true := by
  have h := rl_one x h1
  rw [List.all_eq_true] at h
  exact h
theorem held6 {w W w6 : World} {t : TypeId} {v u : Value} {a b : Int} {base : Nat} {l : List Rl} {m : List (Rl × Value)} {o : Obj} (h : R3 w W t #[u] a b) (hm : RlMem W base v l m) (hg : (W.alloc o).grownBy w6 v.ownBlock) (hb : w.heap.size + 2 < base) :
    w6.cell? ⟨w.heap.size, 0, none⟩ = some u ∧ w6.frozen? ⟨w.heap.size, 0, none⟩ = false := by
  have h1 := (h.alloc o).gb hg (fun g e => by have := (own_rlt hm.2.1 g e).1; omega)
  exact ⟨cell_of_box h1.1 rfl, h1.free 0⟩
/-- What holds ahead of a round. -/
def RlRel (w : World) (rb : Nat) (lv : Value) (xs : List Lx) (R : List Rl × Int × Int) (wr : World) : Prop :=
  ∃ (k n : Nat) (m : List (Rl × Value)) (A : Option Addr) (c : Nat), IsRx wr rb lv k ∧ RdXs wr rb lv xs ∧ R3 w wr 34 #[.slice A m.length c] 0 0 ∧ RlMem wr (rb + 1) (.slice A m.length c) (m.map (·.1)) m ∧ k < xs.length ∧ xs.length - k ≤ n ∧ m.length ≤ 32 ∧ rulesE xs n k (m.map (·.1)) = R

set_option maxRecDepth 100000 in
set_option maxHeartbeats 4000000 in
theorem parseR_any (s : ByteArray) (w : World) (hs : s.size ≤ 9223372036854775807) : Calls Tryd.prog 21 #[.string s] w (ParseRPost (parseR (bts s)) w) := by
  obtain ⟨r, hr⟩ : ∃ r, parseR (bts s) = r := ⟨_, rfl⟩
  rw [hr]
  have HR := Lib.hid hr
  have lf3 := rx_field3
  have lf0 := rx_field0
  clear hr
  have hS := R3.first_ w 34 #[.slice none 0 0]
  go_enter_defers Tryd.func21, Tryd.ntmps21
  go_wp2_with fail
  refine (scan_any s _ hs).mono ?_
  rintro e w1 ⟨v, he, ho, hb⟩
  obtain ⟨xs, er, at_, hsc⟩ : ∃ xs er at_, scanP (bts s) = (xs, er, at_) := ⟨_, _, _, rfl⟩
  rw [hsc] at he ho
  subst he
  have HS1 := Lib.hid (hS.below hb)
  obtain ⟨c1, c2, f1, f2⟩ := HS1.out.cells
  clear hS hb
  have HO := Lib.hid ho
  have hmf : ∀ (fn : Fn) (first cap : Array Value) (w : World), (Instr.makeFunc fn first cap).run Tryd.prog w = .ok (.func fn first cap) w := fun _ _ _ _ => rfl
  by_cases her : er = 0
  · subst her
    obtain ⟨rfl, hpos, _, hlen, _, _⟩ := scan_okx hsc
    have HX := Lib.hid (xs_ok hsc)
    have hre : rulesE xs xs.length 0 [] = r := by
      rw [← HR.out, parseR, hsc]
      simp only [ne_eq, not_true_eq_false, if_false]
    have HRE := Lib.hid hre
    obtain ⟨_, _, A0, cc, rfl, _, _⟩ := id (Rd.of_own ho)
    have hVG := ho.ge
    have HVG := Lib.hid (show VGe (w.heap.size + 3) (.slice A0 xs.length cc) from fun b off sp n c e => by have := hVG b off sp n c e; rw [World.size_alloc, World.size_alloc, World.size_alloc] at this; omega)
    clear hVG
    have hO := (ho.set (j := 0) (g := w.heap.size + 1) (u := .int .i64 0) (by rw [World.size_alloc, World.size_alloc, World.size_alloc]; omega)).set (j := 0) (g := w.heap.size + 2) (u := .int .i64 0) (by rw [World.size_alloc, World.size_alloc, World.size_alloc]; omega)
    have hL := (Rd.of_own hO).below ((Below.refl _ _).alloc (Nat.le_refl _) (.cells #[.slice A0 xs.length cc, .int .i64 0] 66))
    have hP := heap_alloc_last ((w1.setCell ⟨w.heap.size + 1, 0, none⟩ (.int .i64 0)).setCell ⟨w.heap.size + 2, 0, none⟩ (.int .i64 0)) (.cells #[.slice A0 xs.length cc, .int .i64 0] 66)
    rw [size_setCell, size_setCell] at hL hP
    have hS2 := ((HS1.out.set1 0).set2 0).alloc (.cells #[.slice A0 xs.length cc, .int .i64 0] 66)
    have hlt := HS1.out.2.2.2.2
    clear ho hO hsc hre
    go_upto_region 6 with fail
    obtain ⟨rb, hrb⟩ : ∃ rb, w1.heap.size = rb := ⟨_, rfl⟩
    obtain ⟨W2, hW2⟩ : ∃ W, ((w1.setCell ⟨w.heap.size + 1, 0, none⟩ (.int .i64 0)).setCell ⟨w.heap.size + 1 + 1, 0, none⟩ (.int .i64 0)).alloc (.cells #[.slice A0 xs.length cc, .int .i64 0] 66) = W := ⟨_, rfl⟩
    rw [show ((w1.setCell ⟨w.heap.size + 1, 0, none⟩ (.int .i64 0)).setCell ⟨w.heap.size + 2, 0, none⟩ (.int .i64 0)).alloc (.cells #[.slice A0 xs.length cc, .int .i64 0] 66) = W2 from hW2] at hL hP hS2
    rw [hrb] at hL hP hlt
    rw [hrb, hW2]
    have HL := Lib.hid (show RdXs W2 rb (.slice A0 xs.length cc) xs from hL)
    have HP := Lib.hid (show IsRx W2 rb (.slice A0 xs.length cc) 0 from hP)
    have HS2 := Lib.hid hS2
    clear hL hP hS2 HS1 HO c1 c2 f1 f2 hW2 hrb
    have hrb2 : w.heap.size + 2 < rb := hlt
    have hxm := HX.out.2.1
    have HROW := Lib.hid (fun (g : Nat) (e : some rb = some g) => (show w.heap.size + 2 < g by injection e with e; omega))
    go_loopw [24] (fun _ wr => RlRel w rb (.slice A0 xs.length cc) xs r wr) (fun _ wr => xs.length - rxPos rb wr)
    case atStart => exact ⟨0, xs.length, [], none, 0, HP.out, HL.out, HS2.out, RlMem.nil _ _, hpos, by omega, by simp, HRE.out⟩
    case round =>
      clear HS2 HP HL HRE
      obtain ⟨k, n, m, A, c, hrx, hl, h3, hm, hk, hn, hm32, hR⟩ := hrel
      have HPOS := Lib.hid (rxPos_of hrx)
      have HRX := Lib.hid hrx
      have HL := Lib.hid hl
      have H3 := Lib.hid h3
      have HM := Lib.hid hm
      have HRR := Lib.hid hR
      clear hrx hl h3 hm hR
      obtain ⟨n', rfl⟩ : ∃ n', n = n' + 1 := ⟨n - 1, by omega⟩
      go_wp2_with fail
      refine (next_rx _ rb _ k xs HRX.out HL.out hk hxm).mono ?_
      rintro e w2 ⟨he, hb⟩
      obtain ⟨y, hy⟩ : ∃ y, lxAt xs k = y := ⟨_, rfl⟩
      have HY := Lib.hid hy
      rw [hy] at he
      subst he
      have HRX2 := Lib.hid (HRX.out.below hb HRX.out.lt)
      have HL2 := Lib.hid (HL.out.gb (gb_belowS gb_refl hb) HRX.out.lt)
      have H32 := Lib.hid (H3.out.below hb)
      have HM2 := Lib.hid (HM.out.below hb)
      clear hb HRX HL H3 HM hy
      by_cases hk0 : y.kind = 0
      · have hkb : (y.kind != 0) = false := by rw [bne_eq_false_iff_eq]; exact hk0
        have hre := rules_end HRR.out (by rw [HY.out]; exact hk0)
        subst hre
        clear hk0 HRR
        obtain ⟨c1', c2', f1', f2'⟩ := H32.out.cells
        have e0 : w2.cell? ⟨w.heap.size, 0, none⟩ = some (.slice A m.length c) := cell_of_box H32.out.1 rfl
        have e1 := H32.out.free 0
        have HF := Lib.hid (((((H32.out.set0 (.slice A m.length c)).set1 0).set2 0)))
        have HFM := Lib.hid (((HM2.out.setO (g := w.heap.size) (i := 0) (u := .slice A m.length c) (by omega)).setO (g := w.heap.size + 1) (i := 0) (u := .int .i64 0) (by omega)).setO (g := w.heap.size + 2) (i := 0) (u := .int .i64 0) (by omega))
        go_wp2_with fail
        exact doorR_ok HF.out HFM.out.rd rfl rfl rfl
      · have hkb : (y.kind != 0) = true := by rw [bne_iff_ne]; exact hk0
        have HK0 := Lib.hid (show ¬ (lxAt xs k).kind = 0 by rw [HY.out]; exact hk0)
        clear hk0
        go_wp2_with fail
        refine (isWord_rx _ rb _ k xs _ HRX2.out HL2.out hk hxm).mono ?_
        rintro e w3 ⟨he, hb⟩
        have HRX3 := Lib.hid (HRX2.out.below hb HRX2.out.lt)
        have HL3 := Lib.hid (HL2.out.gb (gb_belowS gb_refl hb) HRX2.out.lt)
        have H33 := Lib.hid (H32.out.below hb)
        have HM3 := Lib.hid (HM2.out.below hb)
        clear hb HRX2 HL2 H32 HM2
        obtain ⟨q, hq⟩ : ∃ q, isWd xs k gradeW = q := ⟨_, rfl⟩
        rw [show isWd xs k (bts ⟨#[103, 114, 97, 100, 101]⟩) = q from hq] at he
        have HQ := Lib.hid hq
        clear hq
        subst he
        have e0 : w3.cell? ⟨w.heap.size, 0, none⟩ = some (.slice A m.length c) := cell_of_box H33.out.1 rfl
        by_cases hful : q = true ∧ m.length = 32
        · have hre := rules_full HRR.out HK0.out (by rw [HQ.out]; exact hful.1) (by rw [List.length_map]; exact hful.2)
          rw [HY.out] at hre
          subst hre
          have hqt := hful.1
          subst hqt
          have h32 : ((m.length : Int) == 32) = true := by rw [beq_iff_eq]; omega
          have HF := Lib.hid (fail_rx w3 rb _ k xs 4 HRX3.out HL3.out hk hxm)
          rw [HY.out] at HF
          clear hful
          go_wp2_with fail
          refine HF.out.mono ?_
          rintro e w4 ⟨he, hb⟩
          subst he
          exact doorR_bad (H33.out.below hb) rfl rfl rfl
        · have HFUL := Lib.hid (show ¬ (isWd xs k gradeW = true ∧ (m.map (·.1)).length = 32) from fun h => hful ⟨by rw [← HQ.out]; exact h.1, by have := h.2; rw [List.length_map] at this; exact this⟩)
          have hcond : q = false ∨ (q = true ∧ ((m.length : Int) == 32) = false) := by
            cases q with
            | false => exact .inl rfl
            | true => exact .inr ⟨rfl, by rw [beq_eq_false_iff_ne]; intro h; exact hful ⟨rfl, by omega⟩⟩
          clear hful
          rcases hrx : ruleE xs k with ⟨x, k'⟩ | ⟨er, off⟩
          · have hre := rules_more HRR.out HK0.out HFUL.out hrx
            have hgr := rule_grade hrx
            obtain ⟨hkk, hk'⟩ := rule_in HX.out.1 hk hrx
            rw [HQ.out] at hgr
            subst hgr
            have hm31 : m.length ≤ 31 := by
              rcases hcond with h | ⟨_, h⟩
              · cases h
              · rw [beq_eq_false_iff_ne] at h; omega
            have h32 : ((m.length : Int) == 32) = false := by rw [beq_eq_false_iff_ne]; omega
            have HRE := Lib.hid hre
            have HRU := Lib.hid (fun (W : World) (h1 : IsRx W rb (.slice A0 xs.length cc) k) (h2 : RdXs W rb (.slice A0 xs.length cc) xs) => rule_rx HX.out k hk W rb _ h1 h2)
            rw [hrx] at HRU
            clear hre hrx hcond HFUL HK0 HRR
            obtain ⟨i0, hi0, hq0, hq1, hq2⟩ := info_parts info_rl5
            have hrbs := HRX3.out.lt
            have z0 := H33.out.free 0
            go_wp2_with fail
            refine wp_region_noPanic ?_
            go_region_law
              (first
                | (refine step_append_lies _ (by rfl) _ _ 34 (by rfl) (rb + 1) 58 i0 _ 5 64 Tryd.underlying34 hi0 hq0 hq1 hq2 rfl (by omega) (.slice A m.length c) m.length (rlsCells m) (by rfl) (World.ownsRow.alloc HM5.out.2.1 _) ⟨w5.heap.size, 0, none⟩ 1 1 (rlCells x (.slice A2 x.when_.kids.toList.length c2)) (by rfl) (by rfl) (World.news_of_block (cs := #[.int .i64 x.grade, .int .i64 x.when_.op, .int .i64 x.when_.n, .string (str x.when_.name), .slice A2 x.when_.kids.toList.length c2]) (t := 58) (fr := (0, 0)) (heap_alloc_last w5 _)) (rl_mem x rfl) (by omega) (by simp only [maxLen]; omega) (by omega) (by rw [World.size_alloc]; omega) _ rfl ?_; intro gg cap w6 hown6 hgrow hat hlt6; obtain ⟨cz, fz⟩ := held6 H35.out HM5.out hgrow (by omega))
                | (go_simp; go_at_call 49; refine (HRU.out w3.drew HRX3.out HL3.out).mono ?_; rintro e w5 ⟨hg, A2, c2, he, hx5, hr5⟩; (have he' : e = .returned (.agg #[.int .i64 x.grade, .int .i64 x.when_.op, .int .i64 x.when_.n, .string (str x.when_.name), .slice A2 x.when_.kids.toList.length c2]) := he); subst he'; (have H35 := Lib.hid (H33.out.drew.gb hg HROW.out)); (have HM5 := Lib.hid (HM3.out.drew.gb hg (by omega))); (have HX5 := Lib.hid hx5); (have HR5 := Lib.hid hr5); (have HG5 := Lib.hid hg); (have e5 : w5.cell? ⟨w.heap.size, 0, none⟩ = some (.slice A m.length c) := cell_of_box H35.out.1 rfl); (have hs5 := hr5.lt); (have hw5 : w.heap.size < w5.heap.size := by have := H35.out.2.2.2.2; omega); clear hg hx5 hr5 he))
            all_goals
              refine NoPanic.normal ?_
              have hrow : ∀ g, (Value.slice A m.length c).ownBlock = some g → rb < g ∧ g < w3.heap.size := fun g e => by have := own_rlt HM3.out.2.1 g e; exact ⟨by omega, this.2⟩
              have hsz3 : w3.drew.heap.size = w3.heap.size := rfl
              have h36 := ((H35.out.alloc (.cells #[.int .i64 x.grade, .int .i64 x.when_.op, .int .i64 x.when_.n, .string (str x.when_.name), .slice A2 x.when_.kids.toList.length c2] 58)).gb hgrow (fun g e => by have := (hrow g e).1; omega)).set0 (.slice (some ⟨gg, 0, none⟩) (m.length + 1) cap)
              have hm6 := (RlMem.push HM5.out HX5.out (by rw [hsz3]; omega) (fun g e => by rw [hsz3]; exact (hrow g e).2) hown6 hgrow hat).setO (g := w.heap.size) (i := 0) (u := .slice (some ⟨gg, 0, none⟩) (m.length + 1) cap) (by omega)
              have hr6 : IsRx (w6.setCell ⟨w.heap.size, 0, none⟩ (.slice (some ⟨gg, 0, none⟩) (m.length + 1) cap)) rb (.slice A0 xs.length cc) k' := IsRx.setO ((hgrow.block rb (by rw [World.size_alloc]; omega) (fun e => by have := (hrow _ e.symm).1; omega)).trans (HR5.out.alloc (.cells #[.int .i64 x.grade, .int .i64 x.when_.op, .int .i64 x.when_.n, .string (str x.when_.name), .slice A2 x.when_.kids.toList.length c2] 58))) (by omega) _
              have hl5 : RdXs w5 rb (.slice A0 xs.length cc) xs := RdXs.gb (w := w3.drew) HL3.out HG5.out (by rw [hsz3]; exact hrbs)
              have hl5a : RdXs (w5.alloc (.cells #[.int .i64 x.grade, .int .i64 x.when_.op, .int .i64 x.when_.n, .string (str x.when_.name), .slice A2 x.when_.kids.toList.length c2] 58)) rb (.slice A0 xs.length cc) xs := Rd.below hl5 ((Below.refl rb w5).alloc (by omega) _)
              have hl6 := (hl5a.row_ hgrow (fun g e => by have := (hrow g e).1; omega) (by rw [World.size_alloc]; omega)).setO (i := 0) (u := .slice (some ⟨gg, 0, none⟩) (m.length + 1) cap) HVG.out (g := w.heap.size) (by omega)
              obtain ⟨W6, hW6⟩ : ∃ W, w6.setCell ⟨w.heap.size, 0, none⟩ (.slice (some ⟨gg, 0, none⟩) (m.length + 1) cap) = W := ⟨_, rfl⟩
              rw [hW6] at h36 hm6 hr6 hl6 ⊢
              have H36 := Lib.hid h36
              have HM6 := Lib.hid hm6
              have HR6 := Lib.hid hr6
              have HL6 := Lib.hid hl6
              have HP6 := Lib.hid (rxPos_of hr6)
              clear h36 hm6 hr6 hl6 hl5 hl5a hrow hsz3 hown6 hgrow hat hlt6 cz fz hW6
              go_wp2_with fail
              refine ⟨⟨k', n', m ++ [(x, .slice A2 x.when_.kids.toList.length c2)], some ⟨gg, 0, none⟩, cap, HR6.out, HL6.out, by rw [List.length_append]; exact H36.out, by rw [List.length_append, List.map_append]; exact HM6.out, hk', by omega, by rw [List.length_append, List.length_singleton]; omega, by rw [List.map_append]; exact HRE.out⟩, ?_⟩
              rw [HP6.out, HPOS.out]
              omega
          · have hre := rules_bad HRR.out HK0.out HFUL.out hrx
            subst hre
            have HCP := Lib.hid (fun (R : Ending → World → Prop) (hR : ∀ e w', RulePost w3.drew rb (.slice A0 xs.length cc) (.inr (er, off)) e w' → R e w') => (show Calls _ _ _ _ _ from by rw [← hrx]; exact rule_rx HX.out k hk w3.drew rb _ HRX3.out HL3.out : Calls Tryd.prog 49 #[.pointer (some ⟨rb, 0, none⟩)] w3.drew (RulePost w3.drew rb (.slice A0 xs.length cc) (.inr (er, off)))).mono hR)
            clear hrx HFUL HK0 HRR
            rcases hcond with h | ⟨h, h32⟩
            all_goals
              subst h
              go_wp2_with fail
              refine wp_region_any (by kernel_rfl) ?_
              try (change wpAny _ _ _ _ _ _ _ (World.drew _))
              refine wpAny_ready (rs := [0, 1]) (by kernel_rfl) (by simp) ?_
              refine AllReady.cons rfl (fun K hK => ?_) ?_
              · go_simp
                refine hK _ _ ?_
                clear hK K
                refine wpAny_ready (rs := [1]) (by kernel_rfl) (by simp) ?_
                refine AllReady.cons rfl (fun K hK => ?_) AllReady.nil
                go_simp
                refine hK _ _ ?_
                clear hK K
                refine wpAny_ready (rs := [2]) (by kernel_rfl) (by simp) ?_
                refine AllReady.cons rfl (fun K hK => ?_) AllReady.nil
                go_simp
                refine HCP.out _ ?_
                rintro e w5 ⟨hg, he⟩
                subst he
                exact doorR_bad (H33.out.drew.gb hg HROW.out) rfl rfl rfl
              · refine AllReady.cons rfl (fun K hK => ?_) AllReady.nil
                go_simp
                refine hK _ _ ?_
                clear hK K
                refine wpAny_ready (rs := [0, 2]) (by kernel_rfl) (by simp) ?_
                refine AllReady.cons rfl (fun K hK => ?_) ?_
                · go_simp
                  refine hK _ _ ?_
                  clear hK K
                  refine wpAny_ready (rs := [2]) (by kernel_rfl) (by simp) ?_
                  refine AllReady.cons rfl (fun K hK => ?_) AllReady.nil
                  go_simp
                  refine HCP.out _ ?_
                  rintro e w5 ⟨hg, he⟩
                  subst he
                  exact doorR_bad (H33.out.drew.gb hg HROW.out) rfl rfl rfl
                · refine AllReady.cons rfl (fun K hK => ?_) AllReady.nil
                  go_simp
                  refine HCP.out _ ?_
                  rintro e w5 ⟨hg, he⟩
                  subst he
                  exact doorR_bad (H33.out.drew.gb hg HROW.out) rfl rfl rfl
  · have hre : r = ([], er, at_) := by
      rw [← HR.out, parseR, hsc]
      exact if_pos her
    subst hre
    have hneb : (er != 0) = true := by rw [bne_iff_ne]; exact her
    have HS2 := Lib.hid ((HS1.out.set1 er).set2 at_)
    clear ho hsc her HO
    go_upto_region 2 with fail
    obtain ⟨W2, hW2⟩ : ∃ W, ((w1.setCell ⟨w.heap.size + 1, 0, none⟩ (.int .i64 er)).setCell ⟨w.heap.size + 1 + 1, 0, none⟩ (.int .i64 at_)) = W := ⟨_, rfl⟩
    rw [show ((w1.setCell ⟨w.heap.size + 1, 0, none⟩ (.int .i64 er)).setCell ⟨w.heap.size + 2, 0, none⟩ (.int .i64 at_)) = W2 from hW2] at HS2
    rw [hW2]
    obtain ⟨c1', c2', f1', f2'⟩ := HS2.out.cells
    have e0 : W2.cell? ⟨w.heap.size, 0, none⟩ = some (.slice none 0 0) := cell_of_box HS2.out.1 rfl
    have z0 := HS2.out.free 0
    clear hW2 HS1 c1 c2 f1 f2
    go_wp2_with fail
    go_region
    go_wp2_with fail
    exact ⟨_, r3_rl Tryd.results21 _ ((((HS2.out.set0 (.slice none 0 0)).set1 er).set2 at_).drew) rfl rfl rfl, _, rfl, RdRl.nil _, ((((HS2.out.set0 (.slice none 0 0)).set1 er).set2 at_).drew).2.2.2.1⟩

end Go.Proofs.YtkalkglllgebkaaDoor
