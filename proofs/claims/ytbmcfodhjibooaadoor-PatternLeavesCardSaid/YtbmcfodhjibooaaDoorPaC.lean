/-
  The contracts of pattern's checkNode, of span.Len, and of the function literal of Check.
-/
import Derived.Test.YtbmcfodhjibooaaDoorPaB
import Derived.Test.YtbmcfodhjibooaaDoorPaP
import Derived.Test.YtbmcfodhjibooaaDoorQuiet
namespace Go.Proofs.YtbmcfodhjibooaaDoor
open Go.RowKit Saw

theorem cells5 {w : World} {N : Nat} {a b c d e : Value} {t : TypeId} (h : w.heap[N]? = some (.cells #[a, b, c, d, e] t (0, 0))) : w.cell? ⟨N, 0, none⟩ = some a ∧ w.cell? ⟨N, 1, none⟩ = some b ∧ w.cell? ⟨N, 2, none⟩ = some c ∧ w.cell? ⟨N, 3, none⟩ = some d ∧ w.cell? ⟨N, 4, none⟩ = some e := ⟨cell_of_box h rfl, cell_of_box h rfl, cell_of_box h rfl, cell_of_box h rfl, cell_of_box h rfl⟩

set_option maxRecDepth 100000 in
set_option maxHeartbeats 2000000 in
theorem checkNode_any (n : Nd) (x : Plc) (w : World) : Calls Tryd.prog 77 #[ndV n, plV x] w (IntB (nodeErr n x) w) := by
  unfold ndV plV
  obtain ⟨k, p⟩ := n
  obtain ⟨r, lv⟩ := x
  obtain ⟨q, hq⟩ : ∃ q, nodeErr ⟨k, p⟩ ⟨r, lv⟩ = q := ⟨_, rfl⟩
  rw [hq]
  simp only [nodeErr] at hq
  have HQ := Lib.hid hq
  clear hq
  have hb0 : Below w.heap.size w ((w.alloc (.cells #[.int .i64 k, .int .i64 p] 64)).alloc (.cells #[.int .i64 r.xa, .int .i64 r.xb, .int .i64 r.ya, .int .i64 r.yb, .int .i64 lv] 88)) := by
    repeat (first | exact Below.refl _ _ | apply bel_alloc)
  have HB := Lib.hid hb0
  clear hb0
  by_cases k0 : k < 0
  · have hz : q = 10 := by rw [← HQ.out, if_pos (.inl k0)]
    subst hz
    clear HQ
    go_enter Tryd.func77, Tryd.ntmps77
    go_wp2_with fail
    go_ret
    exact ⟨rfl, HB.out⟩
  by_cases k3 : 3 < k
  · have hz : q = 10 := by rw [← HQ.out, if_pos (.inr (.inl k3))]
    subst hz
    clear HQ
    go_enter Tryd.func77, Tryd.ntmps77
    go_wp2_with fail
    go_ret
    exact ⟨rfl, HB.out⟩
  by_cases kz : k = 0 ∧ p ≠ 0
  · have hz : q = 10 := by rw [← HQ.out, if_pos (.inr (.inr kz))]
    subst hz
    obtain ⟨rfl, hp⟩ := kz
    have hp2 : (p != 0) = true := by rw [bne_iff_ne]; exact hp
    clear HQ k0 k3 hp
    go_enter Tryd.func77, Tryd.ntmps77
    go_wp2_with fail
    go_ret
    exact ⟨rfl, HB.out⟩
  have hq1 : (if 64 < lv then (28 : Int) else if ripP k = true ∧ (p ≤ lowP r k ∨ highP r k ≤ p) then 20 else 0) = q := by
    have h := HQ.out
    rw [if_neg (fun h => h.elim k0 (fun h => h.elim k3 kz))] at h
    exact h
  have HQ1 := Lib.hid hq1
  clear HQ hq1
  have hk1 : (k == 0 && p != 0) = false := by
    rw [← Bool.not_eq_true, Bool.and_eq_true, beq_iff_eq, bne_iff_ne]; exact kz
  have HC : (k == 0) = false ∨ (p != 0) = false := by
    cases h : (k == 0) with
    | false => exact .inl rfl
    | true => rw [h, Bool.true_and] at hk1; exact .inr hk1
  clear hk1 kz
  by_cases l64 : 64 < lv
  · have hz : q = 28 := by rw [← HQ1.out, if_pos l64]
    subst hz
    clear HQ1
    rcases HC with hc | hc
    · go_enter Tryd.func77, Tryd.ntmps77
      go_wp2_with fail
      go_ret
      exact ⟨rfl, HB.out⟩
    · cases hc2 : (k == 0) with
      | true =>
        go_enter Tryd.func77, Tryd.ntmps77
        go_wp2_with fail
        go_ret
        exact ⟨rfl, HB.out⟩
      | false =>
        go_enter Tryd.func77, Tryd.ntmps77
        go_wp2_with fail
        go_ret
        exact ⟨rfl, HB.out⟩
  have HQ2 := Lib.hid (show (if ripP k = true ∧ (p ≤ lowP r k ∨ highP r k ≤ p) then (20 : Int) else 0) = q by rw [← HQ1.out, if_neg l64])
  clear HQ1
  cases hrp : ripP k with
  | false =>
    have hz : q = 0 := by rw [← HQ2.out, if_neg (by rw [hrp]; rintro ⟨h, _⟩; cases h)]
    subst hz
    clear HQ2
    rcases HC with hc | hc
    · go_enter Tryd.func77, Tryd.ntmps77
      go_wp2_with (go_at_call 48; refine (isRip_any _ _).mono ?_; rintro e w1 ⟨he, rfl⟩; rw [hrp] at he; subst he)
      go_ret
      exact ⟨rfl, HB.out⟩
    · cases hc2 : (k == 0) with
      | true =>
        go_enter Tryd.func77, Tryd.ntmps77
        go_wp2_with (go_at_call 48; refine (isRip_any _ _).mono ?_; rintro e w1 ⟨he, rfl⟩; rw [hrp] at he; subst he)
        go_ret
        exact ⟨rfl, HB.out⟩
      | false =>
        go_enter Tryd.func77, Tryd.ntmps77
        go_wp2_with (go_at_call 48; refine (isRip_any _ _).mono ?_; rintro e w1 ⟨he, rfl⟩; rw [hrp] at he; subst he)
        go_ret
        exact ⟨rfl, HB.out⟩
  | true =>
    have hc : (k == 0) = false := by rw [beq_eq_false_iff_ne]; have := ripP_iff.1 hrp; omega
    clear HC
    obtain ⟨lo, hlo⟩ : ∃ lo, lowP r k = lo := ⟨_, rfl⟩
    obtain ⟨hi, hhi⟩ : ∃ hi, highP r k = hi := ⟨_, rfl⟩
    have HQ3 := Lib.hid (show (if p ≤ lo ∨ hi ≤ p then (20 : Int) else 0) = q by rw [← HQ2.out, hrp, hlo, hhi]; simp)
    have HL := Lib.hid (And.intro hlo hhi)
    clear HQ2 hlo hhi
    have HNB := Lib.hid (hpA (heap_alloc_last w (.cells #[.int .i64 k, .int .i64 p] 64)) (.cells #[.int .i64 r.xa, .int .i64 r.xb, .int .i64 r.ya, .int .i64 r.yb, .int .i64 lv] 88))
    go_enter Tryd.func77, Tryd.ntmps77
    go_wp2_with (go_at_call 48; refine (isRip_any _ _).mono ?_; rintro e w1 ⟨he, rfl⟩; rw [hrp] at he; subst he)
    refine (along_any r k _).mono ?_
    rintro e w1 ⟨he, hb1⟩
    rw [HL.out.1, HL.out.2] at he
    subst he
    have hs1 := hb1.size
    have hnb := (hb1.block w.heap.size (by simp only [World.size_alloc]; omega)).trans HNB.out
    obtain ⟨n0, n1⟩ := cells2 (hpA hnb (.cells #[.int .i64 lo, .int .i64 hi] 23))
    have HB1 := Lib.hid (HB.out.trans (hb1.mono (by simp only [World.size_alloc]; omega)))
    have HB2 := Lib.hid (HB1.out.alloc HB1.out.size (.cells #[.int .i64 lo, .int .i64 hi] 23))
    clear hb1 hnb
    by_cases z1 : p ≤ lo
    · have hz : q = 20 := by rw [← HQ3.out, if_pos (.inl z1)]
      subst hz
      clear HQ3
      go_wp2_with fail
      go_ret
      exact ⟨rfl, HB2.out⟩
    · by_cases z2 : hi ≤ p
      · have hz : q = 20 := by rw [← HQ3.out, if_pos (.inr z2)]
        subst hz
        clear HQ3
        go_wp2_with fail
        go_ret
        exact ⟨rfl, HB2.out⟩
      · have hz : q = 0 := by rw [← HQ3.out, if_neg (by omega)]
        subst hz
        clear HQ3
        go_wp2_with fail
        go_ret
        exact ⟨rfl, HB2.out⟩

theorem pr_info : (Tryd.prog.info? 74).map (·.size) = some 7 := by kernel_rfl
theorem pr_load {ops : Array Oper} {rest : List Oper} {d : Option Tmp} {ty : TypeId} {pos : String} {af : Array Edge} {a : Act} {w : World} {Q : Exit → Act → World → Prop} {p : Operand} (b o : Nat) (x : Pr) (lv pv : Value) (hx : a.eval p = .pointer (some ⟨b, o, none⟩)) (hc : w.rangeAt b o (prCells x lv pv))
    (h : wpList Tryd.prog ops Q rest (a.put d (.agg (prCells x lv pv).toArray)) w) : wpList Tryd.prog ops Q (⟨d, .load 74 p, ty, pos, af, none⟩ :: rest) a w :=
  wpList_loadAs b o (prCells x lv pv) hx hc Tryd.underlying74 rfl pr_info h

set_option maxHeartbeats 400000 in
theorem spanSize_any (a b : Int) (w : World) (h0 : -600 ≤ a) (h1 : a ≤ b) (h2 : b ≤ 600) : Calls Tryd.prog 81 #[.agg #[.int .i64 a, .int .i64 b]] w fun e w' => e = .returned (.int .u64 (b - a)) ∧ Below w.heap.size w w' := by
  go_enter Tryd.func81, Tryd.ntmps81
  go_wp2
  all_goals go_ret
  all_goals refine ⟨ret_int ?_, by repeat (first | exact Below.refl _ _ | apply bel_alloc)⟩
  all_goals (try simp only [IntKind.wrap_u64])
  all_goals omega
set_option maxHeartbeats 400000 in
theorem limited_any (n : Int) (w : World) (h0 : 0 ≤ n) (h1 : n ≤ 1200) : Calls Tryd.prog 80 #[.int .u64 n] w fun e w' => e = .returned (.int .i64 n) ∧ w' = w := by
  go_enter Tryd.func80, Tryd.ntmps80
  go_wp2
  all_goals go_ret
  all_goals refine ⟨ret_int ?_, rfl⟩
  all_goals omega
set_option maxHeartbeats 400000 in
theorem spanLen_any (a b : Int) (w : World) (h0 : -600 ≤ a) (h1 : a ≤ b) (h2 : b ≤ 600) : Calls Tryd.prog 44 #[.agg #[.int .i64 a, .int .i64 b]] w fun e w' => e = .returned (.int .i64 (b - a)) ∧ Below w.heap.size w w' := by
  have HS := Lib.hid (fun W => spanSize_any a b W h0 h1 h2)
  have HL := Lib.hid (fun W => limited_any (b - a) W (by omega) (by omega))
  go_enter Tryd.func44, Tryd.ntmps44
  go_wp2_with fail
  refine (HS.out _).mono ?_
  rintro e w1 ⟨he, hb⟩
  subst he
  have HB := Lib.hid (((Below.refl w.heap.size w).alloc (Nat.le_refl _) (.cells #[.int .i64 a, .int .i64 b] 23)).trans (hb.mono (by simp only [World.size_alloc]; omega)))
  clear hb
  go_wp2_with fail
  refine (HL.out _).mono ?_
  rintro e w2 ⟨he, rfl⟩
  subst he
  go_wp2_with fail
  go_ret
  exact ⟨rfl, HB.out⟩

end Go.Proofs.YtbmcfodhjibooaaDoor
namespace Saw
/-- A rectangle as it may come up. -/
def RcOk (r : Rc) : Prop := -600 ≤ r.xa ∧ r.xa ≤ r.xb ∧ r.xb ≤ 600 ∧ -600 ≤ r.ya ∧ r.ya ≤ r.yb ∧ r.yb ≤ 600
/-- The error of a board of a product. -/
def boardP (l : List Pr) (r : Rc) (k : Int) : Int :=
  if k < 0 then 8 else match l[k.toNat]? with
  | none => 8
  | some x => if (r.xb - r.xa = (greenP x).1 ∧ r.yb - r.ya = (greenP x).2) ∨ (r.xb - r.xa = (greenP x).2 ∧ r.yb - r.ya = (greenP x).1) then 0 else 20
end Saw
namespace Go.Proofs.YtbmcfodhjibooaaDoor
open Go.RowKit Saw

set_option maxRecDepth 100000 in
set_option maxHeartbeats 2000000 in
theorem boardFn_any (l : List Pr) (lv : Value) (r : Rc) (k : Int) (w : World) (b0 : Nat) (hb0 : w.cell? ⟨b0, 0, none⟩ = some lv) (hrd : RdPr w w.heap.size lv l) (hbl : b0 < w.heap.size) (hr : RcOk r) :
    Calls Tryd.prog 42 #[rcV r, .int .i64 k, .pointer (some ⟨b0, 0, none⟩)] w (IntB (boardP l r k) w) := by
  obtain ⟨A, c, rfl, hc, hml⟩ := hrd.form
  unfold maxLen at hml
  obtain ⟨q, hq⟩ : ∃ q, boardP l r k = q := ⟨_, rfl⟩
  rw [hq]
  unfold boardP at hq
  rw [show rcV r = .agg #[.int .i64 r.xa, .int .i64 r.xb, .int .i64 r.ya, .int .i64 r.yb] from rfl]
  have HQ := Lib.hid hq
  have HB := Lib.hid (bel_alloc (ob := .cells #[.int .i64 r.xa, .int .i64 r.xb, .int .i64 r.ya, .int .i64 r.yb] 25) (Below.refl w.heap.size w))
  have HRD := Lib.hid hrd
  have HRO := Lib.hid hr
  clear hq hrd hr
  by_cases k0 : k < 0
  · have hz : q = 8 := by rw [← HQ.out, if_pos k0]
    subst hz
    clear HQ
    go_enter Tryd.func42, Tryd.ntmps42
    go_wp2_with fail
    go_ret
    exact ⟨rfl, HB.out⟩
  obtain ⟨j, rfl⟩ : ∃ j : Nat, k = (j : Int) := ⟨k.toNat, by omega⟩
  by_cases kl : j < l.length
  · have hx : l[j]? = some l[j] := List.getElem?_eq_getElem kl
    obtain ⟨x, hxe⟩ : ∃ x, l[j] = x := ⟨_, rfl⟩
    rw [hxe] at hx
    obtain ⟨G1, hG1⟩ : ∃ G, (greenP x).1 = G := ⟨_, rfl⟩
    obtain ⟨G2, hG2⟩ : ∃ G, (greenP x).2 = G := ⟨_, rfl⟩
    have HQ1 := Lib.hid (show (if (r.xb - r.xa = G1 ∧ r.yb - r.ya = G2) ∨ (r.xb - r.xa = G2 ∧ r.yb - r.ya = G1) then (0 : Int) else 20) = q by
      have h := HQ.out
      rw [if_neg k0, Int.toNat_natCast, hx] at h
      simp only [hG1, hG2] at h
      exact h)
    clear HQ
    obtain ⟨pb, po, A1, c1, A2, c2, rfl, hpb, _, _, _, _, d0, d1, d2, d3, d4, d5, d6⟩ := RdPr.at_ HRD.out hx
    have HG := Lib.hid (And.intro hG1 hG2)
    have HPC := Lib.hid (show w.rangeAt pb (po + j * 7) (prCells x (.slice A1 x.lens.length c1) (.slice A2 x.prices.length c2)) from fun i v hv => by
      have hi : i < 7 := (List.getElem?_eq_some_iff.1 hv).1
      match i, hi with
      | 0, _ => injection hv with hv; subst hv; exact d0
      | 1, _ => injection hv with hv; subst hv; exact d1
      | 2, _ => injection hv with hv; subst hv; exact d2
      | 3, _ => injection hv with hv; subst hv; exact d3
      | 4, _ => injection hv with hv; subst hv; exact d4
      | 5, _ => injection hv with hv; subst hv; exact d5
      | 6, _ => injection hv with hv; subst hv; exact d6)
    clear hG1 hG2 hx hxe d0 d1 d2 d3 d4 d5 d6
    go_enter Tryd.func42, Tryd.ntmps42
    go_wp2_with ((with_reducible refine pr_load pb (po + j * 7) x (.slice A1 x.lens.length c1) (.slice A2 x.prices.length c2) ?hx ?hc ?_); (case hx => rfl); (case hc => exact rangeAt_alloc hpb HPC.out _))
    refine (green_any x A1 A2 _ c1 _ c2 _).mono ?_
    rintro e w1 ⟨he, hb⟩
    rw [HG.out.1, HG.out.2] at he
    subst he
    have HB1 := Lib.hid (HB.out.trans (hb.mono (by simp only [World.size_alloc]; omega)))
    have hrb : w1.heap[w.heap.size]? = some (.cells #[.int .i64 r.xa, .int .i64 r.xb, .int .i64 r.ya, .int .i64 r.yb] 25 (0, 0)) := (hb.block w.heap.size (by simp only [World.size_alloc]; omega)).trans (heap_alloc_last w _)
    obtain ⟨y0, y1, y2, y3⟩ := cells4 hrb
    have hlt1 : w.heap.size < w1.heap.size := (Array.getElem?_eq_some_iff.1 hrb).1
    obtain ⟨X, hX⟩ : ∃ X, r.xb - r.xa = X := ⟨_, rfl⟩
    obtain ⟨Y, hY⟩ : ∃ Y, r.yb - r.ya = Y := ⟨_, rfl⟩
    rw [hX, hY] at HQ1
    obtain ⟨o1, o2, o3, o4, o5, o6⟩ := HRO.out
    have D1 := Lib.hid (fun W => hX ▸ spanLen_any r.xa r.xb W o1 o2 o3)
    have D2 := Lib.hid (fun W => hY ▸ spanLen_any r.ya r.yb W o4 o5 o6)
    have HLT := Lib.hid hlt1
    have HX1 := Lib.hid (show w1.rangeAt w.heap.size 0 [.int .i64 r.xa, .int .i64 r.xb] from fun i v hv => by
      have hi : i < 2 := (List.getElem?_eq_some_iff.1 hv).1
      match i, hi with
      | 0, _ => injection hv with hv; subst hv; exact y0
      | 1, _ => injection hv with hv; subst hv; exact y1)
    have HX2 := Lib.hid (show w1.rangeAt w.heap.size 2 [.int .i64 r.ya, .int .i64 r.yb] from fun i v hv => by
      have hi : i < 2 := (List.getElem?_eq_some_iff.1 hv).1
      match i, hi with
      | 0, _ => injection hv with hv; subst hv; exact y2
      | 1, _ => injection hv with hv; subst hv; exact y3)
    clear hb hrb hX hY o1 o2 o3 o4 o5 o6
    go_wp2_with fail
    refine wp_region_quiet_below (by kernel_rfl) (by kernel_rfl) ?_
    repeat (first
      | ((with_reducible refine quiet_load w.heap.size 0 [.int .i64 r.xa, .int .i64 r.xb] ?hw ?hx ?hc HLT.out Tryd.underlying23 ?hd ?hi ?_); (case hi => kernel_rfl); (case hw => kernel_rfl); (case hx => rfl); (case hc => exact HX1.out); (case hd => rfl))
      | ((with_reducible refine quiet_load w.heap.size 2 [.int .i64 r.ya, .int .i64 r.yb] ?hw ?hx ?hc HLT.out Tryd.underlying23 ?hd ?hi ?_); (case hi => kernel_rfl); (case hw => kernel_rfl); (case hx => rfl); (case hc => exact HX2.out); (case hd => rfl))
      | (open Go.BigFrame in go_big_quiet_step ((first | (with_reducible exact Calls.regrown_of (D1.out _)) | (with_reducible exact Calls.regrown_of (D2.out _)))))
      | (quiet_step ((first | (with_reducible exact Calls.regrown_of (D1.out _)) | (with_reducible exact Calls.regrown_of (D2.out _))))))
    refine wpQuiet_nil ?_
    rintro w6 ⟨z6, hw6⟩
    have hb6 : Below w1.heap.size w1 w6 := by rw [hw6]; exact below_regrown _ _ _
    have HB6 := Lib.hid (HB1.out.trans (hb6.mono (by omega)))
    clear hw6 hb6 y0 y1 y2 y3 D1 D2
    go_wp2_with fail
    all_goals go_ret
    all_goals refine ⟨ret_int ?_, HB6.out⟩
    all_goals
      have hq := HQ1.out
      simp_all
  · have hz : q = 8 := by rw [← HQ.out, if_neg k0, Int.toNat_natCast, List.getElem?_eq_none (by omega)]
    subst hz
    clear HQ
    go_enter Tryd.func42, Tryd.ntmps42
    go_wp2_with fail
    go_ret
    exact ⟨rfl, HB.out⟩

end Go.Proofs.YtbmcfodhjibooaaDoor
