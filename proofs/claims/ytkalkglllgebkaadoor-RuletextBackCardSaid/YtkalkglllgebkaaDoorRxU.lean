/-
  The parser's method rule (package ruletext).
-/
import Derived.Test.YtkalkglllgebkaaDoorRxS
namespace Go.Proofs.YtkalkglllgebkaaDoor
open Go.RowKit Saw

theorem rl_info : (Tryd.prog.info? 58).map (·.size) = some 5 := by kernel_rfl
def rlArr (x : Rl) (sv : Value) : Array Value := #[.int .i64 x.grade, .int .i64 x.when_.op, .int .i64 x.when_.n, .string (str x.when_.name), sv]
theorem rl_one (x : Rl) {sv : Value} (h1 : sv.oneCell' = true) : (rlArr x sv).toList.all (·.oneCell') = true := by
  simp only [rlArr, List.all_cons, List.all_nil, h1, Bool.and_true]
  rfl
section
variable {ops : Array Oper} {rest : List Oper} {d : Option Tmp} {ty : TypeId} {pos : String} {af : Array Edge} {a : Act} {w : World} {Q : Exit → Act → World → Prop} {p q : Operand}
theorem rl_put (g : Nat) (x : Rl) (sv : Value) (h1 : sv.oneCell' = true) (hx : a.eval p = .pointer (some ⟨g, 0, none⟩)) (hy : a.eval q = .agg (rlArr x sv)) {old : Array Value} {t' : TypeId} (hg : w.heap[g]? = some (.cells old t' (0, 0))) (hs : Hid (old.size = 5))
    (h : wpList Tryd.prog ops Q rest (a.put d undef) (w.setRow g (rlArr x sv))) : wpList Tryd.prog ops Q (⟨d, .store 58 p q, ty, pos, af, none⟩ :: rest) a w :=
  wpList_storeOld g _ hx hy hg rl_info (hs.out.trans rfl) (rl_one x h1) h
end
theorem rl_res {fn : Func} {p : Tmp} (h : fn.results = #[.cell p 58]) (tmps : Array Value) (W : World) (g : Nat) {x : Rl} {sv : Value} (hp : tmps.getD p undef = .pointer (some ⟨g, 0, none⟩)) {t : TypeId} {fr : Nat × Nat} (hg : W.heap[g]? = some (.cells (rlArr x sv) t fr)) :
    (results fn tmps).run Tryd.prog W = .ok (.agg (rlArr x sv)) W :=
  results_cell1 h tmps W g 0 (rlArr x sv).toList hp (rangeAt_block hg) Tryd.underlying58 rfl rl_info

/-- What reading a rule leaves. -/
def RulePost (w : World) (rb : Nat) (lv : Value) (r : (Rl × Nat) ⊕ (Int × Int)) (e : Ending) (w' : World) : Prop :=
  w.grownBy w' (some rb) ∧ match r with
  | .inl (x, k) => ∃ A c, e = .returned (.agg (rlArr x (.slice A x.when_.kids.toList.length c))) ∧ RdFo w' (Iv w.heap.size w'.heap.size) (.slice A x.when_.kids.toList.length c) x.when_.kids ∧ IsRx w' rb lv k
  | .inr (er, off) => e = Thrown er off

/-- How memory stands while a rule is read: the parser, the result's block. -/
def MSt (w W : World) (rb : Nat) (lv : Value) (k : Nat) : Prop :=
  IsRx W rb lv k ∧ w.grownBy W (some rb) ∧ rb < w.heap.size ∧ w.heap.size < W.heap.size ∧ ∃ cs : Array Value, cs.size = 5 ∧ W.heap[w.heap.size]? = some (.cells cs 58 (0, 0))
/-- The same, and a lexeme in a block g. -/
def MLt (w W : World) (rb : Nat) (lv : Value) (k g : Nat) (y : Lx) : Prop :=
  MSt w W rb lv k ∧ W.heap[g]? = some (.cells #[.int .i64 y.kind, .string (str y.text), .int .i64 y.num, .int .i64 y.off] 49 (0, 0)) ∧ w.heap.size < g ∧ g < W.heap.size
section
variable {w W W' : World} {rb k k' g : Nat} {lv sv : Value} {x : Rl} {y : Lx}
theorem MSt.first_ {z : Array Value} (hz : z.size = 5) (hr : IsRx w rb lv k) : MSt w (w.alloc (.cells z 58)) rb lv k :=
  ⟨hr.alloc _, gb_alloc gb_refl _, hr.lt, by rw [World.size_alloc]; omega, z, hz, heap_alloc_last w _⟩
theorem MSt.call (h : MSt w W rb lv k) (hr : IsRx W' rb lv k') (hg : W.grownBy W' (some rb)) : MSt w W' rb lv k' := by
  obtain ⟨h1, h2, h3, h4, cs, h5, h6⟩ := h
  have hs := hg.size
  exact ⟨hr, gb_trans h2 hg, h3, by omega, cs, h5, (hg.block _ h4 (fun e => by injection e; omega)).trans h6⟩
theorem MSt.below (h : MSt w W rb lv k) (hb : Below W.heap.size W W') : MSt w W' rb lv k := h.call (h.1.below hb h.1.lt) (gb_belowS gb_refl hb)
theorem MSt.rdx {xs : List Lx} (h : MSt w W rb lv k) (hl : RdXs w rb lv xs) : RdXs W rb lv xs := hl.gb h.2.1 h.2.2.1
theorem MLt.first_ (h : MSt w W rb lv k) : MLt w (W.alloc (.cells #[.int .i64 y.kind, .string (str y.text), .int .i64 y.num, .int .i64 y.off] 49)) rb lv k W.heap.size y :=
  ⟨h.below ((Below.refl _ _).alloc (Nat.le_refl _) _), heap_alloc_last W _, h.2.2.2.1, by rw [World.size_alloc]; omega⟩
theorem MLt.call (h : MLt w W rb lv k g y) (hr : IsRx W' rb lv k') (hg : W.grownBy W' (some rb)) : MLt w W' rb lv k' g y := by
  obtain ⟨h1, h2, h3, h4⟩ := h
  have hs := hg.size
  have hrb := h1.2.2.1
  exact ⟨h1.call hr hg, (hg.block _ h4 (fun e => by injection e; omega)).trans h2, h3, by omega⟩
theorem MLt.below (h : MLt w W rb lv k g y) (hb : Below W.heap.size W W') : MLt w W' rb lv k g y := h.call (h.1.1.below hb h.1.1.lt) (gb_belowS gb_refl hb)
theorem MLt.cells (h : MLt w W rb lv k g y) : W.cell? ⟨g, 0, none⟩ = some (.int .i64 y.kind) ∧ W.cell? ⟨g, 1, none⟩ = some (.string (str y.text)) ∧ W.cell? ⟨g, 2, none⟩ = some (.int .i64 y.num) ∧ W.cell? ⟨g, 3, none⟩ = some (.int .i64 y.off) ∧ g < W.heap.size :=
  ⟨cell_of_box h.2.1 rfl, cell_of_box h.2.1 rfl, cell_of_box h.2.1 rfl, cell_of_box h.2.1 rfl, h.2.2.2⟩
theorem MSt.leave (h : MSt w W rb lv k) {S : Nat → Prop} (hx : RdFo W S sv x.when_.kids) (hS : ∀ b, S b → w.heap.size < b ∧ b < W.heap.size) : (W.setRow w.heap.size (rlArr x sv)).heap[w.heap.size]? = some (.cells (rlArr x sv) 58 (0, 0)) ∧ w.grownBy (W.setRow w.heap.size (rlArr x sv)) (some rb) ∧ RdFo (W.setRow w.heap.size (rlArr x sv)) (Iv w.heap.size (W.setRow w.heap.size (rlArr x sv)).heap.size) sv x.when_.kids ∧ IsRx (W.setRow w.heap.size (rlArr x sv)) rb lv k := by
  obtain ⟨h1, h2, h3, h4, cs, h5, h6⟩ := h
  rw [show (W.setRow w.heap.size (rlArr x sv)).heap.size = W.heap.size by simp]
  refine ⟨setRow_heap _ _ _ _ _ _ h6, gb_setRow h2 (.inr (Nat.le_refl _)) _, (hx.setRow (fun b hb => by have := hS b hb; omega) _).more (fun b hb => ⟨by have := hS b hb; omega, (hS b hb).2⟩), h1.row (by omega) _⟩
end

set_option maxRecDepth 100000 in
set_option maxHeartbeats 1000000 in
theorem rule_rx {xs : List Lx} (hx : XsOk xs) (k : Nat) (hkx : k < xs.length) (w : World) (rb : Nat) (lv : Value) (hr : IsRx w rb lv k) (hl : RdXs w rb lv xs) :
    Calls Tryd.prog 49 #[.pointer (some ⟨rb, 0, none⟩)] w (RulePost w rb lv (ruleE xs k)) := by
  have hxm := hx.2.1
  obtain ⟨r, hrr⟩ : ∃ r, ruleE xs k = r := ⟨_, rfl⟩
  rw [hrr]
  have HR := Lib.hid hrr
  have hS := MSt.first_ (z := #[.int .i64 0, .int .i64 0, .int .i64 0, .string ⟨#[]⟩, .slice none 0 0]) rfl hr
  have HS := Lib.hid hS
  have HL := Lib.hid hl
  have HX := Lib.hid hx
  clear hS hr hl hx hrr
  go_enter Tryd.func49, Tryd.ntmps49
  go_wp2_with fail
  refine (isWord_rx _ rb lv k xs _ HS.out.1 (HS.out.rdx HL.out) hkx hxm).mono ?_
  rintro e w1 ⟨he, hb⟩
  have HS1 := Lib.hid (HS.out.below hb)
  clear hb HS
  obtain ⟨q, hq⟩ : ∃ q, isWd xs k gradeW = q := ⟨_, rfl⟩
  rw [show isWd xs k (bts ⟨#[103, 114, 97, 100, 101]⟩) = q from hq] at he
  subst he
  have HE := Lib.hid (expect_rx w1 rb lv k xs q HS1.out.1 (HS1.out.rdx HL.out) hkx hxm)
  go_wp2_with fail
  refine HE.out.mono ?_
  rintro e w2 ⟨hg, hp⟩
  cases q with
  | false =>
    rw [if_neg (by decide)] at hp
    have h9 : r = .inr (5, (lxAt xs k).off) := by rw [← HR.out, ruleE, if_pos hq]
    subst h9
    subst hp
    exact ⟨rfl, gb_trans HS1.out.2.1 hg, rfl⟩
  | true =>
  rw [if_pos rfl] at hp
  obtain ⟨he, hr2⟩ := hp
  subst he
  have hk1 := isWd_in HX.out.1 hkx hq
  have HS2 := Lib.hid (HS1.out.call hr2 hg)
  have HR1 := Lib.hid (show r = if (lxAt xs (k + 1)).kind = 2 ∧ 9 < (lxAt xs (k + 1)).num then .inr (26, (lxAt xs (k + 1)).off)
      else if (lxAt xs (k + 1)).kind ≠ 2 then .inr (5, (lxAt xs (k + 1)).off)
      else if isWd xs (k + 2) whenW = false then .inr (5, (lxAt xs (k + 2)).off)
      else match wholeE xs (k + 3) with
        | .bad er off => .inr (er, off)
        | .ok e k' => if isMk xs k' [59] = false then .inr (5, (lxAt xs k').off) else .inl (⟨(lxAt xs (k + 1)).num, e⟩, k' + 1) by rw [← HR.out, ruleE, if_neg (by rw [hq]; decide)]; rfl)
  clear hg hr2 HS1 hq HE HR
  go_wp2_with fail
  refine (next_rx _ rb lv (k + 1) xs HS2.out.1 (HS2.out.rdx HL.out) hk1 hxm).mono ?_
  rintro e w3 ⟨he, hb⟩
  obtain ⟨y, hy⟩ : ∃ y, lxAt xs (k + 1) = y := ⟨_, rfl⟩
  have HY := Lib.hid hy
  rw [hy] at he HR1
  subst he
  have hS3 := MLt.first_ (y := y) (HS2.out.below hb)
  go_upto_region 3 with fail
  obtain ⟨g, hgq⟩ : ∃ g, w3.heap.size = g := ⟨_, rfl⟩
  obtain ⟨W3, hW3⟩ : ∃ W, w3.alloc (.cells #[.int .i64 y.kind, .string (str y.text), .int .i64 y.num, .int .i64 y.off] 49) = W := ⟨_, rfl⟩
  rw [hgq, hW3] at hS3 ⊢
  have HS3 := Lib.hid hS3
  clear hb hy hS3 hW3 hgq HS2
  obtain ⟨d0, d1, d2, d3, hlt3⟩ := HS3.out.cells
  have HF := Lib.hid (fail_rx W3 rb lv (k + 1) xs 26 HS3.out.1.1 (HS3.out.1.rdx HL.out) hk1 hxm)
  have HEE := Lib.hid (fun ok => expect_rx W3 rb lv (k + 1) xs ok HS3.out.1.1 (HS3.out.1.rdx HL.out) hk1 hxm)
  rw [HY.out] at HF HEE
  by_cases hk2 : y.kind = 2
  · have hkb : (y.kind == 2) = true := by rw [beq_iff_eq]; exact hk2
    by_cases h9 : 9 < y.num
    · have hre := HR1.out
      rw [if_pos ⟨hk2, h9⟩] at hre
      subst hre
      clear hk2 HR1
      go_wp2_with fail
      refine HF.out.mono ?_
      rintro e w4 ⟨he, hb⟩
      subst he
      exact ⟨rfl, gb_belowS HS3.out.1.2.1 hb, rfl⟩
    · have hre := HR1.out
      rw [if_neg (fun h => h9 h.2), if_neg (by rw [Classical.not_not]; exact hk2)] at hre
      have HR2 := Lib.hid hre
      have hk3 : k + 2 < xs.length := lxEnds_next HX.out.1 hk1 (by rw [HY.out, hk2]; decide)
      clear hre HR1 hk2
      go_wp2_with fail
      refine (HEE.out true).mono ?_
      rintro e w4 ⟨hg, hp⟩
      rw [if_pos rfl] at hp
      obtain ⟨he, hr4⟩ := hp
      subst he
      have HS4 := Lib.hid (HS3.out.call hr4 hg)
      clear hg hr4 HS3 HF HEE d0 d1 d2 d3 hlt3
      go_wp2_with fail
      refine (isWord_rx _ rb lv (k + 2) xs _ HS4.out.1.1 (HS4.out.1.rdx HL.out) hk3 hxm).mono ?_
      rintro e w5 ⟨he, hb⟩
      have HS5 := Lib.hid (HS4.out.below hb)
      clear hb HS4
      obtain ⟨q, hq⟩ : ∃ q, isWd xs (k + 2) whenW = q := ⟨_, rfl⟩
      rw [show isWd xs (k + 2) (bts ⟨#[119, 104, 101, 110]⟩) = q from hq] at he
      subst he
      have HE := Lib.hid (expect_rx w5 rb lv (k + 2) xs q HS5.out.1.1 (HS5.out.1.rdx HL.out) hk3 hxm)
      go_wp2_with fail
      refine HE.out.mono ?_
      rintro e w6 ⟨hg, hp⟩
      cases q with
      | false =>
        rw [if_neg (by decide)] at hp
        have h9 := HR2.out
        rw [if_pos hq] at h9
        subst h9
        subst hp
        exact ⟨rfl, gb_trans HS5.out.1.2.1 hg, rfl⟩
      | true =>
        rw [if_pos rfl] at hp
        obtain ⟨he, hr6⟩ := hp
        subst he
        have hk4 : k + 3 < xs.length := isWd_in HX.out.1 hk3 hq
        have HS6 := Lib.hid (HS5.out.call hr6 hg)
        have HR3 := Lib.hid (HR2.out.trans (if_neg (by rw [hq]; decide)))
        clear hg hr6 HS5 hq HE HR2
        go_wp2_with fail
        refine (whole_rx HX.out (k + 3) hk4 _ rb lv HS6.out.1.1 (HS6.out.1.rdx HL.out)).mono ?_
        rintro e w7 ⟨hg, hp⟩
        rcases whole_cases HX.out.1 hk4 with ⟨x, k', _, _, hw, _, hk'⟩ | ⟨x, k', _, _, hw, _, hk'⟩ | ⟨er, off, _, hw⟩
        · rw [hw] at hp HR3
          obtain ⟨A1, c1, he, hrd, hr7⟩ := hp
          subst he
          have hS8 := (HS6.out.call hr7 hg).below ((Below.refl _ _).alloc (Nat.le_refl _) (.cells (exArr x (.slice A1 x.kids.toList.length c1)) 24))
          have hE8 := heap_alloc_last w7 (.cells (exArr x (.slice A1 x.kids.toList.length c1)) 24)
          have hD8 := hrd.allocN (.cells (exArr x (.slice A1 x.kids.toList.length c1)) 24)
          have hlo := HS6.out.1.2.2.2.1
          have HRF := Lib.hid HR3.out
          go_upto_region 8 with fail
          obtain ⟨g8, hg8⟩ : ∃ g, w7.heap.size = g := ⟨_, rfl⟩
          obtain ⟨W8, hW8⟩ : ∃ W, w7.alloc (.cells #[.int .i64 x.op, .int .i64 x.n, .string (str x.name), .slice A1 x.kids.toList.length c1] 24) = W := ⟨_, rfl⟩
          have hlt8 : g8 < W8.heap.size := by rw [← hW8, World.size_alloc]; omega
          rw [show w7.alloc (.cells (exArr x (.slice A1 x.kids.toList.length c1)) 24) = W8 from hW8] at hS8 hE8 hD8
          rw [hg8] at hE8
          rw [hg8, hW8]
          have HS8 := Lib.hid hS8
          have HE8 := Lib.hid hE8
          have HD8 := Lib.hid hD8
          have HLO := Lib.hid hlo
          have HLT8 := Lib.hid hlt8
          have HGR := Lib.hid (show g8 ≠ rb by have h_1 := HS6.out.1.2.2.1; have h_2 := hg.size; omega)
          clear hS8 hE8 hD8 hlo hlt8 hg hrd hr7 hW8 hg8 HR3 hw
          go_wp2_with fail
          refine (isMark_rx _ rb lv k' xs _ HS8.out.1.1 (HS8.out.1.rdx HL.out) hk' hxm).mono ?_
          rintro e w9 ⟨he, hb⟩
          have HS9 := Lib.hid (HS8.out.below hb)
          have HE9 := Lib.hid ((hb.block _ HLT8.out).trans HE8.out)
          have HD9 := Lib.hid (HD8.out.next hb)
          have HLT9 := Lib.hid (Nat.lt_of_lt_of_le HLT8.out hb.size)
          clear hb HS8 HE8 HD8 HLT8
          obtain ⟨q, hq⟩ : ∃ q, isMk xs k' [59] = q := ⟨_, rfl⟩
          rw [show isMk xs k' (bts ⟨#[59]⟩) = q from hq] at he
          subst he
          have HE := Lib.hid (expect_rx w9 rb lv k' xs q HS9.out.1.1 (HS9.out.1.rdx HL.out) hk' hxm)
          go_wp2_with fail
          refine HE.out.mono ?_
          rintro e w10 ⟨hg, hp⟩
          have hre : r = if isMk xs k' [59] = false then .inr (5, (lxAt xs k').off) else .inl (⟨y.num, x⟩, k' + 1) := HRF.out
          cases q with
          | false =>
            rw [if_neg (by decide)] at hp
            rw [if_pos hq] at hre
            subst hre
            subst hp
            exact ⟨rfl, gb_trans HS9.out.1.2.1 hg, rfl⟩
          | true =>
            rw [if_pos rfl] at hp
            obtain ⟨he, hr10⟩ := hp
            subst he
            rw [if_neg (by rw [hq]; decide)] at hre
            subst hre
            have HS10 := Lib.hid (HS9.out.call hr10 hg)
            obtain ⟨d0, d1, d2, d3, hlt3⟩ := HS10.out.cells
            have hs10 := hg.size
            have hE10 := (hg.block _ HLT9.out (fun e => HGR.out (by injection e))).trans HE9.out
            have HG := Lib.hid (show w10.rangeAt g8 0 (exCells x (.slice A1 x.kids.toList.length c1)) from rangeAt_block hE10)
            have HD := Lib.hid (HD9.out.gb hg (fun b hb => ⟨by have := hb.1; have := HLO.out; have := HS9.out.1.2.2.1; omega, hb.2⟩))
            have HS9S := Lib.hid hs10
            obtain ⟨cs, hcs, hres⟩ := HS10.out.1.2.2.2.2
            have HCS := Lib.hid hcs
            have HRES := Lib.hid hres
            clear hcs hres hg hr10 hq hE10 hs10 HE
            go_wp2_with (first
              | ((with_reducible refine ex_load g8 0 x (.slice A1 x.kids.toList.length c1) ?hx HG.out ?_); (case hx => rfl))
              | ((with_reducible refine rl_put w.heap.size ⟨y.num, x⟩ (.slice A1 x.kids.toList.length c1) rfl ?hx ?hy HRES.out HCS ?_); (case hx => rfl); (case hy => rfl)))
            obtain ⟨p1, p2, p3, p4⟩ := HS10.out.1.leave (x := ⟨y.num, x⟩) HD.out (fun b hb => ⟨by have := hb.1; have := HLO.out; omega, by have := hb.2; have := HS9S.out; omega⟩)
            exact bodyPost_ret (rl_res Tryd.results49 _ _ w.heap.size rfl p1) rfl ⟨p2, _, _, rfl, p3, p4⟩
        · rw [hw] at hp HR3
          have hre : r = .inr (28, (lxAt xs (k + 3)).off) := HR3.out
          subst hre
          have he : e = Thrown 28 (lxAt xs (k + 3)).off := hp
          subst he
          exact ⟨rfl, gb_trans HS6.out.1.2.1 hg, rfl⟩
        · rw [hw] at hp HR3
          have hre : r = .inr (er, off) := HR3.out
          subst hre
          have he : e = Thrown er off := hp
          subst he
          exact ⟨rfl, gb_trans HS6.out.1.2.1 hg, rfl⟩
  · have hkb : (y.kind == 2) = false := by rw [beq_eq_false_iff_ne]; exact hk2
    have hre := HR1.out
    rw [if_neg (fun h => hk2 h.1), if_pos hk2] at hre
    subst hre
    clear hk2 HR1
    go_wp2_with fail
    refine (HEE.out false).mono ?_
    rintro e w4 ⟨hg, hp⟩
    rw [if_neg (by decide)] at hp
    subst hp
    exact ⟨rfl, gb_trans HS3.out.1.2.1 hg, rfl⟩

end Go.Proofs.YtkalkglllgebkaaDoor
