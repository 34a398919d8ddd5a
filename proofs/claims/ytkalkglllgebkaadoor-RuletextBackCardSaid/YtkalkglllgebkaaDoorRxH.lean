/-
  The parser's method expr reads what rd says (package ruletext).
  The parser's method conj reads what rd says (package ruletext).
  The parser's method term reads what rd says (package ruletext).
  The parser's method sum reads what rd says (package ruletext).
  The parser's method neg reads what rd says (package ruletext).
-/
import Derived.Test.YtkalkglllgebkaaDoorRxB
namespace Go.Proofs.YtkalkglllgebkaaDoor
open Go.RowKit Saw

set_option maxRecDepth 100000 in
set_option maxHeartbeats 1000000 in
theorem expr_step {xs : List Lx} (hend : LxEnds xs) (hxm : xs.length < 1000000) {n : Nat} (IH : ∀ m, m ≤ n → RdCalls xs m) (k : Nat) (r : RR) (h : rd xs (n + 1) .expr k = some r) (hkx : k < xs.length)
    (w : World) (rb : Nat) (lv : Value) (hr : IsRx w rb lv k) (hl : RdXs w rb lv xs) : Calls Tryd.prog 62 #[.pointer (some ⟨rb, 0, none⟩)] w (RdPost w rb lv r) := by
  have hrb := hr.lt
  rw [rd] at h
  have HC := Lib.hid (IH n (Nat.le_refl _) .conj _ rfl k)
  have HI := Lib.hid IH
  have HR := Lib.hid hr
  have HL := Lib.hid hl
  have HE := Lib.hid hend
  clear IH hr hl hend
  go_enter Tryd.func62, Tryd.ntmps62
  go_wp2_with fail
  rcases andThen_some h with ⟨er, off, h1, rfl⟩ | ⟨e1, k1, h1, h2⟩
  · refine (HC.out _ h1 hkx _ rb lv (HR.out.alloc _) (HL.out.gb (gb_alloc gb_refl _) hrb)).mono ?_
    rintro e w1 ⟨hg, he⟩
    have HG := Lib.hid (gb_trans (gb_alloc gb_refl _) hg)
    subst he
    clear hg h h1
    exact ⟨rfl, HG.out, rfl⟩
  · refine (HC.out _ h1 hkx _ rb lv (HR.out.alloc _) (HL.out.gb (gb_alloc gb_refl _) hrb)).mono ?_
    rintro e w1 ⟨hg, A1, c1, he, hrd1, hr1⟩
    have HST := Lib.hid (ESt.first_ rfl hr1 hrb hg hrd1)
    subst he
    have HK := Lib.hid (rd_in HE.out _ _ _ _ _ hkx h1)
    have H2 := Lib.hid h2
    clear hg hrd1 hr1 h h1 h2
    go_wp2_with fail
    obtain ⟨g, hgq⟩ : ∃ g, w1.heap.size = g := ⟨_, rfl⟩
    rw [hgq] at HST ⊢
    clear hgq
    go_loopw [7] (fun _ wr => ∃ (m k : Nat) (x : Ex) (A : Option Addr) (c : Nat), m ≤ n ∧ ESt w wr rb lv k g x (.slice A x.kids.toList.length c) ∧ k < xs.length ∧ rd xs m (.orL x) k = some r) (fun _ wr => xs.length - rxPos rb wr)
    case atStart => exact ⟨n, k1, e1, A1, c1, Nat.le_refl _, HST.out, HK.out.2, H2.out⟩
    case round =>
      clear HST H2 HK
      obtain ⟨m, k, x, A, c, hm, hst, hk, hrd⟩ := hrel
      have HPOS := Lib.hid (rxPos_of hst.1)
      have HS := Lib.hid hst
      have HRD := Lib.hid hrd
      clear hst hrd
      go_wp2_with fail
      refine (isWord_rx _ rb lv k xs _ HS.out.1 (HS.out.rdx HL.out) hk hxm).mono ?_
      rintro e w2 ⟨he, hb⟩
      have HS2 := Lib.hid (HS.out.below hb)
      clear hb HS
      obtain ⟨m', rfl⟩ : ∃ m', m = m' + 1 := by
        cases m with
        | zero => exact absurd HRD.out (by rw [rd]; exact nofun)
        | succ m' => exact ⟨m', rfl⟩
      rw [rd] at HRD
      obtain ⟨q, hq⟩ : ∃ q, isWd xs k orW = q := ⟨_, rfl⟩
      rw [show isWd xs k (bts ⟨#[111, 114]⟩) = q from hq] at he
      rw [hq] at HRD
      subst he
      cases q with
      | false =>
        have hr9 : some (RR.ok x k) = some r := HRD.out
        injection hr9 with hr9
        subst hr9
        clear HRD hq
        have HG := Lib.hid HS2.out.at_g
        obtain ⟨cs, hcs, hres⟩ := HS2.out.2.2.2.1
        have HCS := Lib.hid hcs
        have HRES := Lib.hid hres
        clear hcs hres
        go_wp2_with (first
          | ((with_reducible refine ex_load g 0 x (.slice A x.kids.toList.length c) ?hx HG.out ?_); (case hx => rfl))
          | ((with_reducible refine ex_put w.heap.size x (.slice A x.kids.toList.length c) rfl ?hx ?hy HRES.out HCS ?_); (case hx => rfl); (case hy => rfl)))
        obtain ⟨p1, p2, p3, p4⟩ := HS2.out.leave
        exact bodyPost_ret (ex_res Tryd.results62 _ _ w.heap.size rfl p1) rfl ⟨p2, A, c, rfl, p3, p4⟩
      | true =>
        have hk1 := isWd_in HE.out hk hq
        obtain ⟨c0, c1', f1, hlt1⟩ := HS2.out.1.cells
        rw [if_pos rfl] at HRD
        have hmw : IntKind.i64.wrap ((k : Int) + 1) = ((k + 1 : Nat) : Int) := by rw [IntKind.wrap_i64] <;> omega
        go_wp2_with fail
        have hS3 := HS2.out.pos (k + 1)
        obtain ⟨W3, hW3⟩ : ∃ W, w2.setCell ⟨rb, 1, none⟩ (.int .i64 ((k : Int) + 1)) = W := ⟨_, rfl⟩
        rw [show w2.setCell ⟨rb, 1, none⟩ (.int .i64 ((k + 1 : Nat) : Int)) = W3 from hW3] at hS3
        rw [hW3]
        have HS3 := Lib.hid hS3
        clear hS3 hW3 HS2 c0 c1' f1 hlt1 hmw
        obtain ⟨⟨g0, g1, g2, g3⟩, z0, z1, z2, z3⟩ := HS3.out.all
        rcases andThen_some HRD.out with ⟨er, off, h1, rfl⟩ | ⟨y, k2, h1, h2⟩
        · have HCP := Lib.hid (fun (R : Ending → World → Prop) (hR : ∀ e w', RdPost W3.drew rb lv (RR.bad er off) e w' → R e w') => (HI.out m' (by omega) .conj _ rfl _ _ h1 hk1 W3.drew rb lv HS3.out.drew.1 (HS3.out.drew.rdx HL.out)).mono hR)
          refine wp_region_any (by kernel_rfl) ?_
          try (change wpAny _ _ _ _ _ _ _ (World.drew _))
          refine wpAny_take (i := 1) (v := ?_) rfl (by kernel_rfl) (by kernel_rfl) (by kernel_rfl) (fun _ _ _ h => h) (Or.inl ⟨by rfl, ?_⟩) ?_
          rotate_left
          · intro w; go_simp; with_reducible rfl
          refine wpAny_ready (rs := [0, 2]) (by kernel_rfl) (by simp) ?_
          refine AllReady.cons rfl (fun K hK => ?_) ?_
          · go_simp
            refine hK _ _ ?_
            clear hK K
            refine wpAny_ready (rs := [2]) (by kernel_rfl) (by simp) ?_
            refine AllReady.cons rfl (fun K hK => ?_) AllReady.nil
            go_simp
            refine HCP.out _ ?_
            rintro e w5 ⟨hg, he⟩
            subst he
            exact ⟨rfl, gb_trans HS3.out.drew.2.1 hg, rfl⟩
          · refine AllReady.cons rfl (fun K hK => ?_) AllReady.nil
            go_simp
            refine HCP.out _ ?_
            rintro e w5 ⟨hg, he⟩
            subst he
            exact ⟨rfl, gb_trans HS3.out.drew.2.1 hg, rfl⟩
        · have HK2 := Lib.hid (rd_in HE.out _ _ _ _ _ hk1 h1)
          go_region_with (first
            | (go_at_call 88; refine (HI.out m' (by omega) .conj _ rfl _ _ h1 hk1 _ rb lv HS3.out.drew.1 (HS3.out.drew.rdx HL.out)).mono ?_; rintro e w5 ⟨hg, A2, c2, he, hy, hr5⟩; subst he; (have HG5 := Lib.hid hg); (have HY5 := Lib.hid hy); (have HR5 := Lib.hid hr5); obtain ⟨⟨b0, b1, b2, b3⟩, y0, y1, y2, y3⟩ := (HS3.out.drew.call hr5 hg).all; clear hg hy hr5)
            | (go_at_call 89; refine (node_any _ _ _ _ _).mono ?_; rintro e w6 ⟨he, hb6⟩; subst he; (have HB6 := Lib.hid hb6); obtain ⟨⟨d0, d1, d2, d3⟩, v0, v1, v2, v3⟩ := (((HS3.out.drew.call HR5.out HG5.out).below ((Below.refl _ _).alloc (Nat.le_refl _) _)).below hb6).all; clear hb6))
          all_goals
            have HS6 := Lib.hid (ESt.two (op := 11) HS3.out.drew HR5.out HG5.out HY5.out _ HB6.out)
            have hg6 := (((HS3.out.drew.call HR5.out HG5.out).below ((Below.refl _ _).alloc (Nat.le_refl _) (.cells #[.int .i64 x.op, .int .i64 x.n, .string (str x.name), .slice A x.kids.toList.length c, .int .i64 y.op, .int .i64 y.n, .string (str y.name), .slice A2 y.kids.toList.length c2] 24))).below HB6.out).2.2.2.2.1
            rw [set4_row hg6 rfl]
            have HP6 := Lib.hid (rxPos_of HS6.out.1)
            clear hg6
            go_wp2_with fail
            refine ⟨⟨m', k2, Saw.two 11 x y, _, _, by omega, HS6.out, HK2.out.2, h2⟩, ?_⟩
            show xs.length - rxPos rb (w6.setRow g (exArr (Saw.two 11 x y) (.slice (some ⟨w5.heap.size, 0, none⟩) 2 2))) < _
            rw [HP6.out, HPOS.out]
            have q9 := HK2.out
            simp only [Lv.step] at q9
            omega

end Go.Proofs.YtkalkglllgebkaaDoor

namespace Go.Proofs.YtkalkglllgebkaaDoor
open Go.RowKit Saw

set_option maxRecDepth 100000 in
set_option maxHeartbeats 1000000 in
theorem conj_step {xs : List Lx} (hend : LxEnds xs) (hxm : xs.length < 1000000) {n : Nat} (IH : ∀ m, m ≤ n → RdCalls xs m) (k : Nat) (r : RR) (h : rd xs (n + 1) .conj k = some r) (hkx : k < xs.length)
    (w : World) (rb : Nat) (lv : Value) (hr : IsRx w rb lv k) (hl : RdXs w rb lv xs) : Calls Tryd.prog 88 #[.pointer (some ⟨rb, 0, none⟩)] w (RdPost w rb lv r) := by
  have hrb := hr.lt
  rw [rd] at h
  have HC := Lib.hid (IH n (Nat.le_refl _) .neg _ rfl k)
  have HI := Lib.hid IH
  have HR := Lib.hid hr
  have HL := Lib.hid hl
  have HE := Lib.hid hend
  clear IH hr hl hend
  go_enter Tryd.func88, Tryd.ntmps88
  go_wp2_with fail
  rcases andThen_some h with ⟨er, off, h1, rfl⟩ | ⟨e1, k1, h1, h2⟩
  · refine (HC.out _ h1 hkx _ rb lv (HR.out.alloc _) (HL.out.gb (gb_alloc gb_refl _) hrb)).mono ?_
    rintro e w1 ⟨hg, he⟩
    have HG := Lib.hid (gb_trans (gb_alloc gb_refl _) hg)
    subst he
    clear hg h h1
    exact ⟨rfl, HG.out, rfl⟩
  · refine (HC.out _ h1 hkx _ rb lv (HR.out.alloc _) (HL.out.gb (gb_alloc gb_refl _) hrb)).mono ?_
    rintro e w1 ⟨hg, A1, c1, he, hrd1, hr1⟩
    have HST := Lib.hid (ESt.first_ rfl hr1 hrb hg hrd1)
    subst he
    have HK := Lib.hid (rd_in HE.out _ _ _ _ _ hkx h1)
    have H2 := Lib.hid h2
    clear hg hrd1 hr1 h h1 h2
    go_wp2_with fail
    obtain ⟨g, hgq⟩ : ∃ g, w1.heap.size = g := ⟨_, rfl⟩
    rw [hgq] at HST ⊢
    clear hgq
    go_loopw [7] (fun _ wr => ∃ (m k : Nat) (x : Ex) (A : Option Addr) (c : Nat), m ≤ n ∧ ESt w wr rb lv k g x (.slice A x.kids.toList.length c) ∧ k < xs.length ∧ rd xs m (.andL x) k = some r) (fun _ wr => xs.length - rxPos rb wr)
    case atStart => exact ⟨n, k1, e1, A1, c1, Nat.le_refl _, HST.out, HK.out.2, H2.out⟩
    case round =>
      clear HST H2 HK
      obtain ⟨m, k, x, A, c, hm, hst, hk, hrd⟩ := hrel
      have HPOS := Lib.hid (rxPos_of hst.1)
      have HS := Lib.hid hst
      have HRD := Lib.hid hrd
      clear hst hrd
      go_wp2_with fail
      refine (isWord_rx _ rb lv k xs _ HS.out.1 (HS.out.rdx HL.out) hk hxm).mono ?_
      rintro e w2 ⟨he, hb⟩
      have HS2 := Lib.hid (HS.out.below hb)
      clear hb HS
      obtain ⟨m', rfl⟩ : ∃ m', m = m' + 1 := by
        cases m with
        | zero => exact absurd HRD.out (by rw [rd]; exact nofun)
        | succ m' => exact ⟨m', rfl⟩
      rw [rd] at HRD
      obtain ⟨q, hq⟩ : ∃ q, isWd xs k andW = q := ⟨_, rfl⟩
      rw [show isWd xs k (bts ⟨#[97, 110, 100]⟩) = q from hq] at he
      rw [hq] at HRD
      subst he
      cases q with
      | false =>
        have hr9 : some (RR.ok x k) = some r := HRD.out
        injection hr9 with hr9
        subst hr9
        clear HRD hq
        have HG := Lib.hid HS2.out.at_g
        obtain ⟨cs, hcs, hres⟩ := HS2.out.2.2.2.1
        have HCS := Lib.hid hcs
        have HRES := Lib.hid hres
        clear hcs hres
        go_wp2_with (first
          | ((with_reducible refine ex_load g 0 x (.slice A x.kids.toList.length c) ?hx HG.out ?_); (case hx => rfl))
          | ((with_reducible refine ex_put w.heap.size x (.slice A x.kids.toList.length c) rfl ?hx ?hy HRES.out HCS ?_); (case hx => rfl); (case hy => rfl)))
        obtain ⟨p1, p2, p3, p4⟩ := HS2.out.leave
        exact bodyPost_ret (ex_res Tryd.results88 _ _ w.heap.size rfl p1) rfl ⟨p2, A, c, rfl, p3, p4⟩
      | true =>
        have hk1 := isWd_in HE.out hk hq
        obtain ⟨c0, c1', f1, hlt1⟩ := HS2.out.1.cells
        rw [if_pos rfl] at HRD
        have hmw : IntKind.i64.wrap ((k : Int) + 1) = ((k + 1 : Nat) : Int) := by rw [IntKind.wrap_i64] <;> omega
        go_wp2_with fail
        have hS3 := HS2.out.pos (k + 1)
        obtain ⟨W3, hW3⟩ : ∃ W, w2.setCell ⟨rb, 1, none⟩ (.int .i64 ((k : Int) + 1)) = W := ⟨_, rfl⟩
        rw [show w2.setCell ⟨rb, 1, none⟩ (.int .i64 ((k + 1 : Nat) : Int)) = W3 from hW3] at hS3
        rw [hW3]
        have HS3 := Lib.hid hS3
        clear hS3 hW3 HS2 c0 c1' f1 hlt1 hmw
        obtain ⟨⟨g0, g1, g2, g3⟩, z0, z1, z2, z3⟩ := HS3.out.all
        rcases andThen_some HRD.out with ⟨er, off, h1, rfl⟩ | ⟨y, k2, h1, h2⟩
        · have HCP := Lib.hid (fun (R : Ending → World → Prop) (hR : ∀ e w', RdPost W3.drew rb lv (RR.bad er off) e w' → R e w') => (HI.out m' (by omega) .neg _ rfl _ _ h1 hk1 W3.drew rb lv HS3.out.drew.1 (HS3.out.drew.rdx HL.out)).mono hR)
          refine wp_region_any (by kernel_rfl) ?_
          try (change wpAny _ _ _ _ _ _ _ (World.drew _))
          refine wpAny_take (i := 1) (v := ?_) rfl (by kernel_rfl) (by kernel_rfl) (by kernel_rfl) (fun _ _ _ h => h) (Or.inl ⟨by rfl, ?_⟩) ?_
          rotate_left
          · intro w; go_simp; with_reducible rfl
          refine wpAny_ready (rs := [0, 2]) (by kernel_rfl) (by simp) ?_
          refine AllReady.cons rfl (fun K hK => ?_) ?_
          · go_simp
            refine hK _ _ ?_
            clear hK K
            refine wpAny_ready (rs := [2]) (by kernel_rfl) (by simp) ?_
            refine AllReady.cons rfl (fun K hK => ?_) AllReady.nil
            go_simp
            refine HCP.out _ ?_
            rintro e w5 ⟨hg, he⟩
            subst he
            exact ⟨rfl, gb_trans HS3.out.drew.2.1 hg, rfl⟩
          · refine AllReady.cons rfl (fun K hK => ?_) AllReady.nil
            go_simp
            refine HCP.out _ ?_
            rintro e w5 ⟨hg, he⟩
            subst he
            exact ⟨rfl, gb_trans HS3.out.drew.2.1 hg, rfl⟩
        · have HK2 := Lib.hid (rd_in HE.out _ _ _ _ _ hk1 h1)
          go_region_with (first
            | (go_at_call 103; refine (HI.out m' (by omega) .neg _ rfl _ _ h1 hk1 _ rb lv HS3.out.drew.1 (HS3.out.drew.rdx HL.out)).mono ?_; rintro e w5 ⟨hg, A2, c2, he, hy, hr5⟩; subst he; (have HG5 := Lib.hid hg); (have HY5 := Lib.hid hy); (have HR5 := Lib.hid hr5); obtain ⟨⟨b0, b1, b2, b3⟩, y0, y1, y2, y3⟩ := (HS3.out.drew.call hr5 hg).all; clear hg hy hr5)
            | (go_at_call 89; refine (node_any _ _ _ _ _).mono ?_; rintro e w6 ⟨he, hb6⟩; subst he; (have HB6 := Lib.hid hb6); obtain ⟨⟨d0, d1, d2, d3⟩, v0, v1, v2, v3⟩ := (((HS3.out.drew.call HR5.out HG5.out).below ((Below.refl _ _).alloc (Nat.le_refl _) _)).below hb6).all; clear hb6))
          all_goals
            have HS6 := Lib.hid (ESt.two (op := 10) HS3.out.drew HR5.out HG5.out HY5.out _ HB6.out)
            have hg6 := (((HS3.out.drew.call HR5.out HG5.out).below ((Below.refl _ _).alloc (Nat.le_refl _) (.cells #[.int .i64 x.op, .int .i64 x.n, .string (str x.name), .slice A x.kids.toList.length c, .int .i64 y.op, .int .i64 y.n, .string (str y.name), .slice A2 y.kids.toList.length c2] 24))).below HB6.out).2.2.2.2.1
            rw [set4_row hg6 rfl]
            have HP6 := Lib.hid (rxPos_of HS6.out.1)
            clear hg6
            go_wp2_with fail
            refine ⟨⟨m', k2, Saw.two 10 x y, _, _, by omega, HS6.out, HK2.out.2, h2⟩, ?_⟩
            show xs.length - rxPos rb (w6.setRow g (exArr (Saw.two 10 x y) (.slice (some ⟨w5.heap.size, 0, none⟩) 2 2))) < _
            rw [HP6.out, HPOS.out]
            have q9 := HK2.out
            simp only [Lv.step] at q9
            omega

end Go.Proofs.YtkalkglllgebkaaDoor

namespace Go.Proofs.YtkalkglllgebkaaDoor
open Go.RowKit Saw

set_option maxRecDepth 100000 in
set_option maxHeartbeats 1000000 in
theorem term_step {xs : List Lx} (hend : LxEnds xs) (hxm : xs.length < 1000000) {n : Nat} (IH : ∀ m, m ≤ n → RdCalls xs m) (k : Nat) (r : RR) (h : rd xs (n + 1) .term k = some r) (hkx : k < xs.length)
    (w : World) (rb : Nat) (lv : Value) (hr : IsRx w rb lv k) (hl : RdXs w rb lv xs) : Calls Tryd.prog 125 #[.pointer (some ⟨rb, 0, none⟩)] w (RdPost w rb lv r) := by
  have hrb := hr.lt
  rw [rd] at h
  have HC := Lib.hid (IH n (Nat.le_refl _) .fact _ rfl k)
  have HI := Lib.hid IH
  have HR := Lib.hid hr
  have HL := Lib.hid hl
  have HE := Lib.hid hend
  clear IH hr hl hend
  go_enter Tryd.func125, Tryd.ntmps125
  go_wp2_with fail
  rcases andThen_some h with ⟨er, off, h1, rfl⟩ | ⟨e1, k1, h1, h2⟩
  · refine (HC.out _ h1 hkx _ rb lv (HR.out.alloc _) (HL.out.gb (gb_alloc gb_refl _) hrb)).mono ?_
    rintro e w1 ⟨hg, he⟩
    have HG := Lib.hid (gb_trans (gb_alloc gb_refl _) hg)
    subst he
    clear hg h h1
    exact ⟨rfl, HG.out, rfl⟩
  · refine (HC.out _ h1 hkx _ rb lv (HR.out.alloc _) (HL.out.gb (gb_alloc gb_refl _) hrb)).mono ?_
    rintro e w1 ⟨hg, A1, c1, he, hrd1, hr1⟩
    have HST := Lib.hid (ESt.first_ rfl hr1 hrb hg hrd1)
    subst he
    have HK := Lib.hid (rd_in HE.out _ _ _ _ _ hkx h1)
    have H2 := Lib.hid h2
    clear hg hrd1 hr1 h h1 h2
    go_wp2_with fail
    obtain ⟨g, hgq⟩ : ∃ g, w1.heap.size = g := ⟨_, rfl⟩
    rw [hgq] at HST ⊢
    clear hgq
    go_loopw [7] (fun _ wr => ∃ (m k : Nat) (x : Ex) (A : Option Addr) (c : Nat), m ≤ n ∧ ESt w wr rb lv k g x (.slice A x.kids.toList.length c) ∧ k < xs.length ∧ rd xs m (.mulL x) k = some r) (fun _ wr => xs.length - rxPos rb wr)
    case atStart => exact ⟨n, k1, e1, A1, c1, Nat.le_refl _, HST.out, HK.out.2, H2.out⟩
    case round =>
      clear HST H2 HK
      obtain ⟨m, k, x, A, c, hm, hst, hk, hrd⟩ := hrel
      have HPOS := Lib.hid (rxPos_of hst.1)
      have HS := Lib.hid hst
      have HRD := Lib.hid hrd
      clear hst hrd
      go_wp2_with fail
      refine (isMark_rx _ rb lv k xs _ HS.out.1 (HS.out.rdx HL.out) hk hxm).mono ?_
      rintro e w2 ⟨he, hb⟩
      have HS2 := Lib.hid (HS.out.below hb)
      clear hb HS
      obtain ⟨m', rfl⟩ : ∃ m', m = m' + 1 := by
        cases m with
        | zero => exact absurd HRD.out (by rw [rd]; exact nofun)
        | succ m' => exact ⟨m', rfl⟩
      rw [rd] at HRD
      obtain ⟨q, hq⟩ : ∃ q, isMk xs k [42] = q := ⟨_, rfl⟩
      rw [show isMk xs k (bts ⟨#[42]⟩) = q from hq] at he
      rw [hq] at HRD
      subst he
      cases q with
      | false =>
        have hr9 : some (RR.ok x k) = some r := HRD.out
        injection hr9 with hr9
        subst hr9
        clear HRD hq
        have HG := Lib.hid HS2.out.at_g
        obtain ⟨cs, hcs, hres⟩ := HS2.out.2.2.2.1
        have HCS := Lib.hid hcs
        have HRES := Lib.hid hres
        clear hcs hres
        go_wp2_with (first
          | ((with_reducible refine ex_load g 0 x (.slice A x.kids.toList.length c) ?hx HG.out ?_); (case hx => rfl))
          | ((with_reducible refine ex_put w.heap.size x (.slice A x.kids.toList.length c) rfl ?hx ?hy HRES.out HCS ?_); (case hx => rfl); (case hy => rfl)))
        obtain ⟨p1, p2, p3, p4⟩ := HS2.out.leave
        exact bodyPost_ret (ex_res Tryd.results125 _ _ w.heap.size rfl p1) rfl ⟨p2, A, c, rfl, p3, p4⟩
      | true =>
        have hk1 := isMk_in HE.out hk hq
        obtain ⟨c0, c1', f1, hlt1⟩ := HS2.out.1.cells
        rw [if_pos rfl] at HRD
        have hmw : IntKind.i64.wrap ((k : Int) + 1) = ((k + 1 : Nat) : Int) := by rw [IntKind.wrap_i64] <;> omega
        go_wp2_with fail
        have hS3 := HS2.out.pos (k + 1)
        obtain ⟨W3, hW3⟩ : ∃ W, w2.setCell ⟨rb, 1, none⟩ (.int .i64 ((k : Int) + 1)) = W := ⟨_, rfl⟩
        rw [show w2.setCell ⟨rb, 1, none⟩ (.int .i64 ((k + 1 : Nat) : Int)) = W3 from hW3] at hS3
        rw [hW3]
        have HS3 := Lib.hid hS3
        clear hS3 hW3 HS2 c0 c1' f1 hlt1 hmw
        obtain ⟨⟨g0, g1, g2, g3⟩, z0, z1, z2, z3⟩ := HS3.out.all
        rcases andThen_some HRD.out with ⟨er, off, h1, rfl⟩ | ⟨y, k2, h1, h2⟩
        · have HCP := Lib.hid (fun (R : Ending → World → Prop) (hR : ∀ e w', RdPost W3.drew rb lv (RR.bad er off) e w' → R e w') => (HI.out m' (by omega) .fact _ rfl _ _ h1 hk1 W3.drew rb lv HS3.out.drew.1 (HS3.out.drew.rdx HL.out)).mono hR)
          refine wp_region_any (by kernel_rfl) ?_
          try (change wpAny _ _ _ _ _ _ _ (World.drew _))
          refine wpAny_take (i := 1) (v := ?_) rfl (by kernel_rfl) (by kernel_rfl) (by kernel_rfl) (fun _ _ _ h => h) (Or.inl ⟨by rfl, ?_⟩) ?_
          rotate_left
          · intro w; go_simp; with_reducible rfl
          refine wpAny_ready (rs := [0, 2]) (by kernel_rfl) (by simp) ?_
          refine AllReady.cons rfl (fun K hK => ?_) ?_
          · go_simp
            refine hK _ _ ?_
            clear hK K
            refine wpAny_ready (rs := [2]) (by kernel_rfl) (by simp) ?_
            refine AllReady.cons rfl (fun K hK => ?_) AllReady.nil
            go_simp
            refine HCP.out _ ?_
            rintro e w5 ⟨hg, he⟩
            subst he
            exact ⟨rfl, gb_trans HS3.out.drew.2.1 hg, rfl⟩
          · refine AllReady.cons rfl (fun K hK => ?_) AllReady.nil
            go_simp
            refine HCP.out _ ?_
            rintro e w5 ⟨hg, he⟩
            subst he
            exact ⟨rfl, gb_trans HS3.out.drew.2.1 hg, rfl⟩
        · have HK2 := Lib.hid (rd_in HE.out _ _ _ _ _ hk1 h1)
          go_region_with (first
            | (go_at_call 127; refine (HI.out m' (by omega) .fact _ rfl _ _ h1 hk1 _ rb lv HS3.out.drew.1 (HS3.out.drew.rdx HL.out)).mono ?_; rintro e w5 ⟨hg, A2, c2, he, hy, hr5⟩; subst he; (have HG5 := Lib.hid hg); (have HY5 := Lib.hid hy); (have HR5 := Lib.hid hr5); obtain ⟨⟨b0, b1, b2, b3⟩, y0, y1, y2, y3⟩ := (HS3.out.drew.call hr5 hg).all; clear hg hy hr5)
            | (go_at_call 89; refine (node_any _ _ _ _ _).mono ?_; rintro e w6 ⟨he, hb6⟩; subst he; (have HB6 := Lib.hid hb6); obtain ⟨⟨d0, d1, d2, d3⟩, v0, v1, v2, v3⟩ := (((HS3.out.drew.call HR5.out HG5.out).below ((Below.refl _ _).alloc (Nat.le_refl _) _)).below hb6).all; clear hb6))
          all_goals
            have HS6 := Lib.hid (ESt.two (op := 5) HS3.out.drew HR5.out HG5.out HY5.out _ HB6.out)
            have hg6 := (((HS3.out.drew.call HR5.out HG5.out).below ((Below.refl _ _).alloc (Nat.le_refl _) (.cells #[.int .i64 x.op, .int .i64 x.n, .string (str x.name), .slice A x.kids.toList.length c, .int .i64 y.op, .int .i64 y.n, .string (str y.name), .slice A2 y.kids.toList.length c2] 24))).below HB6.out).2.2.2.2.1
            rw [set4_row hg6 rfl]
            have HP6 := Lib.hid (rxPos_of HS6.out.1)
            clear hg6
            go_wp2_with fail
            refine ⟨⟨m', k2, Saw.two 5 x y, _, _, by omega, HS6.out, HK2.out.2, h2⟩, ?_⟩
            show xs.length - rxPos rb (w6.setRow g (exArr (Saw.two 5 x y) (.slice (some ⟨w5.heap.size, 0, none⟩) 2 2))) < _
            rw [HP6.out, HPOS.out]
            have q9 := HK2.out
            simp only [Lv.step] at q9
            omega

end Go.Proofs.YtkalkglllgebkaaDoor

namespace Go.Proofs.YtkalkglllgebkaaDoor
open Go.RowKit Saw

set_option maxRecDepth 100000 in
set_option maxHeartbeats 1000000 in
theorem sum_step {xs : List Lx} (hend : LxEnds xs) (hxm : xs.length < 1000000) {n : Nat} (IH : ∀ m, m ≤ n → RdCalls xs m) (k : Nat) (r : RR) (h : rd xs (n + 1) .sum k = some r) (hkx : k < xs.length)
    (w : World) (rb : Nat) (lv : Value) (hr : IsRx w rb lv k) (hl : RdXs w rb lv xs) : Calls Tryd.prog 121 #[.pointer (some ⟨rb, 0, none⟩)] w (RdPost w rb lv r) := by
  have hrb := hr.lt
  rw [rd] at h
  have HC := Lib.hid (IH n (Nat.le_refl _) .term _ rfl k)
  have HI := Lib.hid IH
  have HR := Lib.hid hr
  have HL := Lib.hid hl
  have HE := Lib.hid hend
  clear IH hr hl hend
  go_enter Tryd.func121, Tryd.ntmps121
  go_wp2_with fail
  rcases andThen_some h with ⟨er, off, h1, rfl⟩ | ⟨e1, k1, h1, h2⟩
  · refine (HC.out _ h1 hkx _ rb lv (HR.out.alloc _) (HL.out.gb (gb_alloc gb_refl _) hrb)).mono ?_
    rintro e w1 ⟨hg, he⟩
    have HG := Lib.hid (gb_trans (gb_alloc gb_refl _) hg)
    subst he
    clear hg h h1
    exact ⟨rfl, HG.out, rfl⟩
  · refine (HC.out _ h1 hkx _ rb lv (HR.out.alloc _) (HL.out.gb (gb_alloc gb_refl _) hrb)).mono ?_
    rintro e w1 ⟨hg, A1, c1, he, hrd1, hr1⟩
    have HST := Lib.hid (ESt.first_ rfl hr1 hrb hg hrd1)
    subst he
    have HK := Lib.hid (rd_in HE.out _ _ _ _ _ hkx h1)
    have H2 := Lib.hid h2
    clear hg hrd1 hr1 h h1 h2
    go_wp2_with fail
    obtain ⟨g, hgq⟩ : ∃ g, w1.heap.size = g := ⟨_, rfl⟩
    rw [hgq] at HST ⊢
    clear hgq
    go_loopw [7] (fun _ wr => ∃ (m k : Nat) (x : Ex) (A : Option Addr) (c : Nat), m ≤ n ∧ ESt w wr rb lv k g x (.slice A x.kids.toList.length c) ∧ k < xs.length ∧ rd xs m (.addL x) k = some r) (fun _ wr => xs.length - rxPos rb wr)
    case atStart => exact ⟨n, k1, e1, A1, c1, Nat.le_refl _, HST.out, HK.out.2, H2.out⟩
    case round =>
      clear HST H2 HK
      obtain ⟨m, k, x, A, c, hm, hst, hk, hrd⟩ := hrel
      have HPOS := Lib.hid (rxPos_of hst.1)
      have HS := Lib.hid hst
      have HRD := Lib.hid hrd
      clear hst hrd
      go_wp2_with fail
      refine (isMark_rx _ rb lv k xs _ HS.out.1 (HS.out.rdx HL.out) hk hxm).mono ?_
      rintro e w2 ⟨he, hb⟩
      have HS2 := Lib.hid (HS.out.below hb)
      clear hb HS
      obtain ⟨m', rfl⟩ : ∃ m', m = m' + 1 := by
        cases m with
        | zero => exact absurd HRD.out (by rw [rd]; exact nofun)
        | succ m' => exact ⟨m', rfl⟩
      rw [rd] at HRD
      obtain ⟨q, hq⟩ : ∃ q, isMk xs k [43] = q := ⟨_, rfl⟩
      rw [show isMk xs k (bts ⟨#[43]⟩) = q from hq] at he
      rw [hq] at HRD
      subst he
      cases q with
      | true =>
        have hk1 := isMk_in HE.out hk hq
        obtain ⟨c0, c1', f1, hlt1⟩ := HS2.out.1.cells
        rw [if_pos rfl] at HRD
        have hmw : IntKind.i64.wrap ((k : Int) + 1) = ((k + 1 : Nat) : Int) := by rw [IntKind.wrap_i64] <;> omega
        go_wp2_with fail
        have hS3 := HS2.out.pos (k + 1)
        obtain ⟨W3, hW3⟩ : ∃ W, w2.setCell ⟨rb, 1, none⟩ (.int .i64 ((k : Int) + 1)) = W := ⟨_, rfl⟩
        rw [show w2.setCell ⟨rb, 1, none⟩ (.int .i64 ((k + 1 : Nat) : Int)) = W3 from hW3] at hS3
        rw [hW3]
        have HS3 := Lib.hid hS3
        clear hS3 hW3 HS2 c0 c1' f1 hlt1 hmw
        obtain ⟨⟨g0, g1, g2, g3⟩, z0, z1, z2, z3⟩ := HS3.out.all
        rcases andThen_some HRD.out with ⟨er, off, h1, rfl⟩ | ⟨y, k2, h1, h2⟩
        · have HCP := Lib.hid (fun (R : Ending → World → Prop) (hR : ∀ e w', RdPost W3.drew rb lv (RR.bad er off) e w' → R e w') => (HI.out m' (by omega) .term _ rfl _ _ h1 hk1 W3.drew rb lv HS3.out.drew.1 (HS3.out.drew.rdx HL.out)).mono hR)
          refine wp_region_any (by kernel_rfl) ?_
          try (change wpAny _ _ _ _ _ _ _ (World.drew _))
          refine wpAny_take (i := 1) (v := ?_) rfl (by kernel_rfl) (by kernel_rfl) (by kernel_rfl) (fun _ _ _ h => h) (Or.inl ⟨by rfl, ?_⟩) ?_
          rotate_left
          · intro w; go_simp; with_reducible rfl
          refine wpAny_ready (rs := [0, 2]) (by kernel_rfl) (by simp) ?_
          refine AllReady.cons rfl (fun K hK => ?_) ?_
          · go_simp
            refine hK _ _ ?_
            clear hK K
            refine wpAny_ready (rs := [2]) (by kernel_rfl) (by simp) ?_
            refine AllReady.cons rfl (fun K hK => ?_) AllReady.nil
            go_simp
            refine HCP.out _ ?_
            rintro e w5 ⟨hg, he⟩
            subst he
            exact ⟨rfl, gb_trans HS3.out.drew.2.1 hg, rfl⟩
          · refine AllReady.cons rfl (fun K hK => ?_) AllReady.nil
            go_simp
            refine HCP.out _ ?_
            rintro e w5 ⟨hg, he⟩
            subst he
            exact ⟨rfl, gb_trans HS3.out.drew.2.1 hg, rfl⟩
        · have HK2 := Lib.hid (rd_in HE.out _ _ _ _ _ hk1 h1)
          go_region_with (first
            | (go_at_call 125; refine (HI.out m' (by omega) .term _ rfl _ _ h1 hk1 _ rb lv HS3.out.drew.1 (HS3.out.drew.rdx HL.out)).mono ?_; rintro e w5 ⟨hg, A2, c2, he, hy, hr5⟩; subst he; (have HG5 := Lib.hid hg); (have HY5 := Lib.hid hy); (have HR5 := Lib.hid hr5); obtain ⟨⟨b0, b1, b2, b3⟩, y0, y1, y2, y3⟩ := (HS3.out.drew.call hr5 hg).all; clear hg hy hr5)
            | (go_at_call 89; refine (node_any _ _ _ _ _).mono ?_; rintro e w6 ⟨he, hb6⟩; subst he; (have HB6 := Lib.hid hb6); obtain ⟨⟨d0, d1, d2, d3⟩, v0, v1, v2, v3⟩ := (((HS3.out.drew.call HR5.out HG5.out).below ((Below.refl _ _).alloc (Nat.le_refl _) _)).below hb6).all; clear hb6))
          all_goals
            have HS6 := Lib.hid (ESt.two (op := 3) HS3.out.drew HR5.out HG5.out HY5.out _ HB6.out)
            have hg6 := (((HS3.out.drew.call HR5.out HG5.out).below ((Below.refl _ _).alloc (Nat.le_refl _) (.cells #[.int .i64 x.op, .int .i64 x.n, .string (str x.name), .slice A x.kids.toList.length c, .int .i64 y.op, .int .i64 y.n, .string (str y.name), .slice A2 y.kids.toList.length c2] 24))).below HB6.out).2.2.2.2.1
            rw [set4_row hg6 rfl]
            have HP6 := Lib.hid (rxPos_of HS6.out.1)
            clear hg6
            go_wp2_with fail
            refine ⟨⟨m', k2, Saw.two 3 x y, _, _, by omega, HS6.out, HK2.out.2, h2⟩, ?_⟩
            show xs.length - rxPos rb (w6.setRow g (exArr (Saw.two 3 x y) (.slice (some ⟨w5.heap.size, 0, none⟩) 2 2))) < _
            rw [HP6.out, HPOS.out]
            have q9 := HK2.out
            simp only [Lv.step] at q9
            omega

      | false =>
        rw [if_neg (by decide)] at HRD
        go_wp2_with fail
        refine (isMark_rx _ rb lv k xs _ HS2.out.1 (HS2.out.rdx HL.out) hk hxm).mono ?_
        rintro e w22 ⟨he, hb⟩
        have HS22 := Lib.hid (HS2.out.below hb)
        clear hb HS2 hq
        obtain ⟨q, hq⟩ : ∃ q, isMk xs k [45] = q := ⟨_, rfl⟩
        rw [show isMk xs k (bts ⟨#[45]⟩) = q from hq] at he
        rw [hq] at HRD
        subst he
        cases q with
        | false =>
            have hr9 : some (RR.ok x k) = some r := HRD.out
            injection hr9 with hr9
            subst hr9
            clear HRD hq
            have HG := Lib.hid HS22.out.at_g
            obtain ⟨cs, hcs, hres⟩ := HS22.out.2.2.2.1
            have HCS := Lib.hid hcs
            have HRES := Lib.hid hres
            clear hcs hres
            go_wp2_with (first
              | ((with_reducible refine ex_load g 0 x (.slice A x.kids.toList.length c) ?hx HG.out ?_); (case hx => rfl))
              | ((with_reducible refine ex_put w.heap.size x (.slice A x.kids.toList.length c) rfl ?hx ?hy HRES.out HCS ?_); (case hx => rfl); (case hy => rfl)))
            obtain ⟨p1, p2, p3, p4⟩ := HS22.out.leave
            exact bodyPost_ret (ex_res Tryd.results121 _ _ w.heap.size rfl p1) rfl ⟨p2, A, c, rfl, p3, p4⟩
        | true =>
            have hk1 := isMk_in HE.out hk hq
            obtain ⟨c0, c1', f1, hlt1⟩ := HS22.out.1.cells
            rw [if_pos rfl] at HRD
            have hmw : IntKind.i64.wrap ((k : Int) + 1) = ((k + 1 : Nat) : Int) := by rw [IntKind.wrap_i64] <;> omega
            go_wp2_with fail
            have hS3 := HS22.out.pos (k + 1)
            obtain ⟨W3, hW3⟩ : ∃ W, w22.setCell ⟨rb, 1, none⟩ (.int .i64 ((k : Int) + 1)) = W := ⟨_, rfl⟩
            rw [show w22.setCell ⟨rb, 1, none⟩ (.int .i64 ((k + 1 : Nat) : Int)) = W3 from hW3] at hS3
            rw [hW3]
            have HS3 := Lib.hid hS3
            clear hS3 hW3 HS22 c0 c1' f1 hlt1 hmw
            obtain ⟨⟨g0, g1, g2, g3⟩, z0, z1, z2, z3⟩ := HS3.out.all
            rcases andThen_some HRD.out with ⟨er, off, h1, rfl⟩ | ⟨y, k2, h1, h2⟩
            · have HCP := Lib.hid (fun (R : Ending → World → Prop) (hR : ∀ e w', RdPost W3.drew rb lv (RR.bad er off) e w' → R e w') => (HI.out m' (by omega) .term _ rfl _ _ h1 hk1 W3.drew rb lv HS3.out.drew.1 (HS3.out.drew.rdx HL.out)).mono hR)
              refine wp_region_any (by kernel_rfl) ?_
              try (change wpAny _ _ _ _ _ _ _ (World.drew _))
              refine wpAny_take (i := 1) (v := ?_) rfl (by kernel_rfl) (by kernel_rfl) (by kernel_rfl) (fun _ _ _ h => h) (Or.inl ⟨by rfl, ?_⟩) ?_
              rotate_left
              · intro w; go_simp; with_reducible rfl
              refine wpAny_ready (rs := [0, 2]) (by kernel_rfl) (by simp) ?_
              refine AllReady.cons rfl (fun K hK => ?_) ?_
              · go_simp
                refine hK _ _ ?_
                clear hK K
                refine wpAny_ready (rs := [2]) (by kernel_rfl) (by simp) ?_
                refine AllReady.cons rfl (fun K hK => ?_) AllReady.nil
                go_simp
                refine HCP.out _ ?_
                rintro e w5 ⟨hg, he⟩
                subst he
                exact ⟨rfl, gb_trans HS3.out.drew.2.1 hg, rfl⟩
              · refine AllReady.cons rfl (fun K hK => ?_) AllReady.nil
                go_simp
                refine HCP.out _ ?_
                rintro e w5 ⟨hg, he⟩
                subst he
                exact ⟨rfl, gb_trans HS3.out.drew.2.1 hg, rfl⟩
            · have HK2 := Lib.hid (rd_in HE.out _ _ _ _ _ hk1 h1)
              go_region_with (first
                | (go_at_call 125; refine (HI.out m' (by omega) .term _ rfl _ _ h1 hk1 _ rb lv HS3.out.drew.1 (HS3.out.drew.rdx HL.out)).mono ?_; rintro e w5 ⟨hg, A2, c2, he, hy, hr5⟩; subst he; (have HG5 := Lib.hid hg); (have HY5 := Lib.hid hy); (have HR5 := Lib.hid hr5); obtain ⟨⟨b0, b1, b2, b3⟩, y0, y1, y2, y3⟩ := (HS3.out.drew.call hr5 hg).all; clear hg hy hr5)
                | (go_at_call 89; refine (node_any _ _ _ _ _).mono ?_; rintro e w6 ⟨he, hb6⟩; subst he; (have HB6 := Lib.hid hb6); obtain ⟨⟨d0, d1, d2, d3⟩, v0, v1, v2, v3⟩ := (((HS3.out.drew.call HR5.out HG5.out).below ((Below.refl _ _).alloc (Nat.le_refl _) _)).below hb6).all; clear hb6))
              all_goals
                have HS6 := Lib.hid (ESt.two (op := 4) HS3.out.drew HR5.out HG5.out HY5.out _ HB6.out)
                have hg6 := (((HS3.out.drew.call HR5.out HG5.out).below ((Below.refl _ _).alloc (Nat.le_refl _) (.cells #[.int .i64 x.op, .int .i64 x.n, .string (str x.name), .slice A x.kids.toList.length c, .int .i64 y.op, .int .i64 y.n, .string (str y.name), .slice A2 y.kids.toList.length c2] 24))).below HB6.out).2.2.2.2.1
                rw [set4_row hg6 rfl]
                have HP6 := Lib.hid (rxPos_of HS6.out.1)
                clear hg6
                go_wp2_with fail
                refine ⟨⟨m', k2, Saw.two 4 x y, _, _, by omega, HS6.out, HK2.out.2, h2⟩, ?_⟩
                show xs.length - rxPos rb (w6.setRow g (exArr (Saw.two 4 x y) (.slice (some ⟨w5.heap.size, 0, none⟩) 2 2))) < _
                rw [HP6.out, HPOS.out]
                have q9 := HK2.out
                simp only [Lv.step] at q9
                omega


end Go.Proofs.YtkalkglllgebkaaDoor

namespace Go.Proofs.YtkalkglllgebkaaDoor
open Go.RowKit Saw

set_option maxRecDepth 100000 in
set_option maxHeartbeats 1000000 in
theorem neg_step {xs : List Lx} (hend : LxEnds xs) (hxm : xs.length < 1000000) {n : Nat} (IH : ∀ m, m ≤ n → RdCalls xs m) (k : Nat) (r : RR) (h : rd xs (n + 1) .neg k = some r) (hkx : k < xs.length)
    (w : World) (rb : Nat) (lv : Value) (hr : IsRx w rb lv k) (hl : RdXs w rb lv xs) : Calls Tryd.prog 103 #[.pointer (some ⟨rb, 0, none⟩)] w (RdPost w rb lv r) := by
  rw [rd] at h
  have HI := Lib.hid (IH n (Nat.le_refl _))
  have HS := Lib.hid (NSt.first_ (z := #[.int .i64 0, .int .i64 0, .string ⟨#[]⟩, .slice none 0 0]) rfl hr)
  have HL := Lib.hid hl
  have HE := Lib.hid hend
  clear IH hr hl hend
  go_enter Tryd.func103, Tryd.ntmps103
  go_wp2_with fail
  refine (isWord_rx _ rb lv k xs _ HS.out.1 (HS.out.rdx HL.out) hkx hxm).mono ?_
  rintro e w2 ⟨he, hb⟩
  have HS2 := Lib.hid (HS.out.below hb)
  clear hb HS
  obtain ⟨q, hq⟩ : ∃ q, isWd xs k notW = q := ⟨_, rfl⟩
  rw [show isWd xs k (bts ⟨#[110, 111, 116]⟩) = q from hq] at he
  rw [hq] at h
  subst he
  cases q with
  | true =>
    have hk1 := isWd_in HE.out hkx hq
    obtain ⟨c0, c1', f1, hlt1⟩ := HS2.out.1.cells
    rw [if_pos rfl] at h
    have HH := Lib.hid h
    clear h
    have hmw : IntKind.i64.wrap ((k : Int) + 1) = ((k + 1 : Nat) : Int) := by rw [IntKind.wrap_i64] <;> omega
    go_wp2_with fail
    have hS3 := HS2.out.pos (k + 1)
    obtain ⟨W3, hW3⟩ : ∃ W, w2.setCell ⟨rb, 1, none⟩ (.int .i64 ((k : Int) + 1)) = W := ⟨_, rfl⟩
    rw [show w2.setCell ⟨rb, 1, none⟩ (.int .i64 ((k + 1 : Nat) : Int)) = W3 from hW3] at hS3
    rw [hW3]
    have HS3 := Lib.hid hS3
    clear hS3 hW3 HS2 c0 c1' f1 hlt1 hmw
    rcases andThen_some HH.out with ⟨er, off, h1, rfl⟩ | ⟨y, k2, h1, h2⟩
    · refine (HI.out .neg _ rfl _ _ h1 hk1 _ rb lv HS3.out.1 (HS3.out.rdx HL.out)).mono ?_
      rintro e w5 ⟨hg, he⟩
      subst he
      exact ⟨rfl, gb_trans HS3.out.2.1 hg, rfl⟩
    · injection h2 with h2
      subst h2
      refine (HI.out .neg _ rfl _ _ h1 hk1 _ rb lv HS3.out.1 (HS3.out.rdx HL.out)).mono ?_
      rintro e w5 ⟨hg, A2, c2, he, hy, hr5⟩
      subst he
      have HS5 := Lib.hid (HS3.out.call hr5 hg)
      have HY := Lib.hid hy
      have hs5 := hg.size
      have HLO := Lib.hid (show w.heap.size < W3.heap.size from HS3.out.2.2.2.1)
      clear hg hy hr5 h1 HH
      go_wp2_with fail
      refine (node_any _ _ _ _ _).mono ?_
      rintro e w6 ⟨he, hb6⟩
      subst he
      have HB6 := Lib.hid hb6
      have HS6 := Lib.hid ((HS5.out.alloc (.cells #[.int .i64 y.op, .int .i64 y.n, .string (str y.name), .slice A2 y.kids.toList.length c2] 24)).below hb6)
      have HX := Lib.hid (one_slice HY.out hs5 24 hb6 9)
      obtain ⟨cs, hcs, hres⟩ := HS6.out.2.2.2.2
      have HCS := Lib.hid hcs
      have HRES := Lib.hid hres
      clear hcs hres hb6
      go_wp2_with (first
        | ((with_reducible refine ex_put w.heap.size (Saw.one 9 y) (.slice (some ⟨w5.heap.size, 0, none⟩) 1 1) rfl ?hx ?hy HRES.out HCS ?_); (case hx => rfl); (case hy => rfl)))
      obtain ⟨p1, p2, p3, p4⟩ := HS6.out.leave (x := Saw.one 9 y) HX.out (fun b hb => ⟨Nat.lt_of_lt_of_le HLO.out hb.1, hb.2⟩)
      exact bodyPost_ret (ex_res Tryd.results103 _ _ w.heap.size rfl p1) rfl ⟨p2, _, _, rfl, p3, p4⟩
  | false =>
    rw [if_neg (by decide)] at h
    have HH := Lib.hid h
    clear h
    go_wp2_with fail
    refine (HI.out .comp _ rfl _ _ HH.out hkx _ rb lv HS2.out.1 (HS2.out.rdx HL.out)).mono ?_
    cases r with
    | bad er off =>
      rintro e w5 ⟨hg, he⟩
      have he' : e = Thrown er off := he
      subst he'
      exact ⟨rfl, gb_trans HS2.out.2.1 hg, rfl⟩
    | ok y k2 =>
      rintro e w5 ⟨hg, A2, c2, he, hy, hr5⟩
      subst he
      have HS5 := Lib.hid (HS2.out.call hr5 hg)
      have HY := Lib.hid hy
      have hs5 := hg.size
      have HLO := Lib.hid (show w.heap.size < w2.heap.size from HS2.out.2.2.2.1)
      obtain ⟨cs, hcs, hres⟩ := HS5.out.2.2.2.2
      have HCS := Lib.hid hcs
      have HRES := Lib.hid hres
      clear hg hy hr5 hcs hres
      go_wp2_with (first
        | ((with_reducible refine ex_put w.heap.size y (.slice A2 y.kids.toList.length c2) rfl ?hx ?hy HRES.out HCS ?_); (case hx => rfl); (case hy => rfl)))
      obtain ⟨p1, p2, p3, p4⟩ := HS5.out.leave HY.out (fun b hb => ⟨Nat.lt_of_lt_of_le HLO.out hb.1, hb.2⟩)
      exact bodyPost_ret (ex_res Tryd.results103 _ _ w.heap.size rfl p1) rfl ⟨p2, _, _, rfl, p3, p4⟩

end Go.Proofs.YtkalkglllgebkaaDoor
