/-
  The parser's methods whole and rule (package ruletext).
-/
import Derived.Test.YtkalkglllgebkaaDoorRxQ
namespace Saw
/-- What is read, unless it is too deep. -/
def deepE (p : Int) : RR → RR
  | .ok e k => if 8 < e.depth then .bad 28 p else .ok e k
  | .bad er off => .bad er off
theorem whole_deep {xs : List Lx} {k : Nat} {r : RR} (h : rd xs (12 * xs.length + 8) .expr k = some r) : wholeE xs k = deepE (lxAt xs k).off r := by
  rw [wholeE, h]
  cases r <;> rfl
end Saw
namespace Go.Proofs.YtkalkglllgebkaaDoor
open Go.RowKit Saw

theorem rdFo_zero {w : World} {lo hi : Nat} {v : Value} {f : Fo} (h : RdFo w (Iv lo hi) v f) : RdFo w (Iv 0 hi) v f := h.more fun _ hb => ⟨Nat.zero_le _, hb.2⟩

set_option maxRecDepth 100000 in
set_option maxHeartbeats 1000000 in
theorem whole_rx {xs : List Lx} (hx : XsOk xs) (k : Nat) (hkx : k < xs.length) (w : World) (rb : Nat) (lv : Value) (hr : IsRx w rb lv k) (hl : RdXs w rb lv xs) :
    Calls Tryd.prog 36 #[.pointer (some ⟨rb, 0, none⟩)] w (RdPost w rb lv (wholeE xs k)) := by
  have hxm := hx.2.1
  obtain ⟨r0, h0⟩ := rd_total hx.1 (12 * xs.length + 8) .expr k hkx (by simp only [Lv.rank]; omega)
  rw [whole_deep h0]
  have hS := NSt.first_ (z := #[.int .i64 0, .int .i64 0, .string ⟨#[]⟩, .slice none 0 0]) rfl hr
  have HCE := Lib.hid (rd_calls hx (12 * xs.length + 8) .expr _ rfl k r0 h0 hkx)
  have HDEP := Lib.hid (fun e k' (h : r0 = .ok e k') => by
    have h1 := rd_depth hx.1 _ _ _ _ _ hkx (h0.trans (congrArg some h))
    have h2 := (rd_in hx.1 _ _ _ _ _ hkx (h0.trans (congrArg some h))).2
    exact (show e.depth ≤ 1000000000 by simp only [Lv.dep] at h1; omega))
  obtain ⟨p, hp⟩ : ∃ p, (lxAt xs k).off = p := ⟨_, rfl⟩
  have HN := Lib.hid (fun (W : World) (h1 : IsRx W rb lv k) (h2 : RdXs W rb lv xs) => next_rx W rb lv k xs h1 h2 hkx hxm)
  obtain ⟨y, hy⟩ : ∃ y, lxAt xs k = y := ⟨_, rfl⟩
  rw [hy] at hp HN
  rw [hy, hp]
  have hpy : y.off = p := hp
  have HS := Lib.hid hS
  have HL := Lib.hid hl
  have HP := Lib.hid hpy
  clear hS hr hl hp hy hpy h0
  have lf := rx_field3
  go_enter Tryd.func36, Tryd.ntmps36
  go_wp2_with fail
  refine (HN.out _ HS.out.1 (HS.out.rdx HL.out)).mono ?_
  rintro e w1 ⟨he, hb⟩
  rw [HP.out] at he
  subst he
  have HS1 := Lib.hid (HS.out.below hb)
  clear hb HS HN
  go_wp2_with fail
  refine (HCE.out _ rb lv HS1.out.1 (HS1.out.rdx HL.out)).mono ?_
  cases r0 with
  | bad er off =>
    rintro e w2 ⟨hg, he⟩
    have he' : e = Thrown er off := he
    subst he'
    exact ⟨rfl, gb_trans HS1.out.2.1 hg, rfl⟩
  | ok x k' =>
    rintro e w2 ⟨hg, A1, c1, he, hrd, hr2⟩
    subst he
    have hdx := HDEP.out x k' rfl
    have hS2 := ESt.later_ HS1.out hr2 hg hrd
    have hD := (rdFo_zero hrd).allocN (.cells (exArr x (.slice A1 x.kids.toList.length c1)) 24)
    go_upto_region 3 with fail
    obtain ⟨g, hgq⟩ : ∃ g, w2.heap.size = g := ⟨_, rfl⟩
    obtain ⟨W2, hW2⟩ : ∃ W, w2.alloc (.cells #[.int .i64 x.op, .int .i64 x.n, .string (str x.name), .slice A1 x.kids.toList.length c1] 24) = W := ⟨_, rfl⟩
    rw [show w2.alloc (.cells (exArr x (.slice A1 x.kids.toList.length c1)) 24) = W2 from hW2] at hS2 hD
    rw [hgq] at hS2
    rw [hgq, hW2]
    have HS2 := Lib.hid hS2
    have HD := Lib.hid hD
    have HG := Lib.hid hS2.at_g
    clear hS2 hD hg hrd hr2 hW2 hgq HS1 HDEP HCE
    go_wp2_with (first
      | ((with_reducible refine ex_load g 0 x (.slice A1 x.kids.toList.length c1) ?hx HG.out ?_); (case hx => rfl)))
    refine (depth_any x.size x (Nat.le_refl _) hdx A1 c1 _ HD.out).mono ?_
    rintro e w3 ⟨he, hb⟩
    subst he
    have HS3 := Lib.hid (HS2.out.below hb)
    clear hb
    by_cases h8 : 8 < x.depth
    · have h8' : (8 : Int) < (x.depth : Int) := by omega
      have HE9 := Lib.hid (show deepE p (.ok x k') = .bad 28 p from if_pos h8)
      clear h8
      go_wp2_with fail
      refine ⟨rfl, HS3.out.2.1, ?_⟩
      rw [HE9.out]
      rfl
    · have h8' : ¬ (8 : Int) < (x.depth : Int) := by omega
      have HE9 := Lib.hid (show deepE p (.ok x k') = .ok x k' from if_neg h8)
      clear h8
      have HG3 := Lib.hid HS3.out.at_g
      obtain ⟨cs, hcs, hres⟩ := HS3.out.2.2.2.1
      have HCS := Lib.hid hcs
      have HRES := Lib.hid hres
      clear hcs hres
      go_wp2_with (first
        | ((with_reducible refine ex_load g 0 x (.slice A1 x.kids.toList.length c1) ?hx HG3.out ?_); (case hx => rfl))
        | ((with_reducible refine ex_put w.heap.size x (.slice A1 x.kids.toList.length c1) rfl ?hx ?hy HRES.out HCS ?_); (case hx => rfl); (case hy => rfl)))
      obtain ⟨p1, p2, p3, p4⟩ := HS3.out.leave
      exact bodyPost_ret (ex_res Tryd.results36 _ _ w.heap.size rfl p1) rfl ⟨p2, by rw [HE9.out]; exact ⟨_, _, rfl, p3, p4⟩⟩

end Go.Proofs.YtkalkglllgebkaaDoor
