/-
  The contracts of sawmillref01's Clamp, size and Decimal (of whole numbers), and of sawmillref19.number.
-/
import Derived.Test.YtokgonpeolppnaaDoorPrQ
import Derived.Test.YtokgonpeolppnaaDoorPrI
import Derived.Test.YtokgonpeolppnaaDoorCat
import Derived.Laws.IdiomStrings
namespace Saw
theorem dec_len21 (u : Nat) (h : u ≤ 1000000) : (Go.Lib.decDigits u).length ≤ 21 := by
  have := Go.Lib.itoa_length_le (u : Int) (by omega) (by omega)
  unfold Go.Lib.itoa at this
  rw [if_neg (by omega)] at this
  simpa using this
/-- What is still to be written of a number, behind some digits of it, the last one first. -/
def DecRest (u v i : Nat) (bs : List UInt8) : Prop := Go.Lib.decDigits u = (if 0 < v ∨ i = 0 then Go.Lib.decDigits v else []) ++ bs.reverse
theorem DecRest.step {u v i : Nat} {bs : List UInt8} (h : DecRest u v i bs) (hv : 0 < v ∨ i = 0) : DecRest u (v / 10) (i + 1) (bs ++ [UInt8.ofNat (48 + v % 10)]) := by
  unfold DecRest at h ⊢
  rw [if_pos hv] at h
  rw [h, List.reverse_append, List.reverse_singleton]
  by_cases h10 : v < 10
  · rw [Go.Lib.decDigits_one h10, if_neg (by omega), Nat.mod_eq_of_lt h10]; rfl
  · rw [Go.Lib.decDigits, dif_neg h10, if_pos (by omega), List.append_assoc]
theorem DecRest.len {u v i : Nat} {bs : List UInt8} (h : DecRest u v i bs) (hu : u ≤ 1000000) : bs.length ≤ 21 := by
  have := dec_len21 u hu
  rw [show Go.Lib.decDigits u = _ from h, List.length_append, List.length_reverse] at this
  omega
theorem DecRest.done {u i : Nat} {bs : List UInt8} (h : DecRest u 0 (i + 1) bs) : Go.Lib.decDigits u = bs.reverse := by
  unfold DecRest at h
  rwa [if_neg (by omega), List.nil_append] at h
end Saw
namespace Go.Proofs.YtokgonpeolppnaaDoor
open Go.RowKit Saw

def OwnsB (w : World) (base : Nat) (v : Value) (l : List UInt8) : Prop := w.ownsRow base 5 1 v l.length (Lib.byteCells l)
theorem info_u8 : (Tryd.prog.info? 5).map (fun i => (i.zero, i.size, i.bytes)) = some (some (.int .u8 0), 1, 1) := by kernel_rfl
theorem OwnsB.form {W : World} {base : Nat} {v : Value} {l : List UInt8} (h : OwnsB W base v l) : ∃ A c, v = .slice A l.length c := by
  rcases h.2 with ⟨rfl, h0⟩ | ⟨g', cap, cur, rfl, _⟩
  · exact ⟨none, 0, by rw [h0]⟩
  · exact ⟨_, _, rfl⟩
theorem OwnsB.snoc {W : World} {base gg cap : Nat} {l : List UInt8} {d : UInt8} (h : W.ownsRow base 5 1 (.slice (some ⟨gg, 0, none⟩) (l.length + 1) cap) (l.length + 1) (Lib.byteCells l ++ [.int .u8 (d.toNat : Int)])) : OwnsB W base (.slice (some ⟨gg, 0, none⟩) (l.length + 1) cap) (l ++ [d]) := by
  unfold OwnsB
  rw [List.length_append, Lib.byteCells_append]
  exact h
theorem OwnsB.at_ {W : World} {base n c : Nat} {A : Option Addr} {l : List UInt8} (h : OwnsB W base (.slice A n c) l) {i : Nat} {d : UInt8} (hd : l[i]? = some d) : ∃ b, A = some ⟨b, 0, none⟩ ∧ base ≤ b ∧ b < W.heap.size ∧ W.cell? ⟨b, i, none⟩ = some (.int .u8 (d.toNat : Int)) := by
  have hi := (List.getElem?_eq_some_iff.1 hd).1
  rcases h.2 with ⟨hn, h0⟩ | ⟨g, cap, cur, he, hbg, hgg, hn, hcap, hcs, htk⟩
  · omega
  · injection he with e1 e2 e3
    subst e1
    refine ⟨g, rfl, hbg, (Array.getElem?_eq_some_iff.1 hgg).1, ?_⟩
    rw [cell_of_row W g i cur _ (0, 0) hgg]
    have hu : (Lib.byteCells l)[i]? = some (.int .u8 (d.toNat : Int)) := by simp [Lib.byteCells, hd]
    rw [← htk, List.getElem?_take] at hu
    split at hu
    · simpa using hu
    · cases hu

set_option maxHeartbeats 400000 in
theorem clamp0_any (w : World) : Calls Tryd.prog 76 #[.int .i64 0, .int .i64 0, .int .i64 9] w fun e w' => e = .returned (.int .i64 0) ∧ w = w' := by
  go_enter Tryd.func76, Tryd.ntmps76
  go_wp2
  go_ret
  exact ⟨rfl, rfl⟩
set_option maxHeartbeats 400000 in
theorem size_any (u : Nat) (hu : u ≤ 1000000) (w : World) : Calls Tryd.prog 77 #[.int .i64 u] w fun e w' => e = .returned (.int .u64 u) ∧ w = w' := by
  go_enter Tryd.func77, Tryd.ntmps77
  go_wp2
  go_ret
  exact ⟨rfl, rfl⟩

def decLeft (a b : Value) : Nat := match a, b with | .int _ v, .int _ i => v.toNat + (1 - i.toNat) | _, _ => 0

set_option maxRecDepth 100000 in
set_option maxHeartbeats 1000000 in
theorem decimal0_any (u : Nat) (hu : u ≤ 1000000) (w : World) : Calls Tryd.prog 65 #[.int .i64 u, .int .i64 0] w fun e w' => e = .returned (.string (str (Lib.decDigits u))) ∧ Below w.heap.size w w' := by
  obtain ⟨i0, hi0, hq0, hq1, hq2⟩ := info_parts info_u8
  obtain ⟨r, hr⟩ : ∃ r, Lib.decDigits u = r := ⟨_, rfl⟩
  rw [hr]
  have HR := Lib.hid hr
  clear hr
  go_enter Tryd.func65, Tryd.ntmps65
  go_wp2_with fail
  refine (clamp0_any _).mono ?_
  rintro e w1 ⟨rfl, rfl⟩
  go_wp2_with fail
  refine (size_any u hu _).mono ?_
  rintro e w1 ⟨rfl, rfl⟩
  go_wp2_with fail
  go_loopw [6, 7, 8] (fun a b c wr => ∃ (v i : Nat) (bs : List UInt8), a = .int .u64 v ∧ c = .int .i64 i ∧ v ≤ 1000000 ∧ i ≤ 30 ∧ bs.length = i ∧ OwnsB wr w.heap.size b bs ∧ Below w.heap.size w wr ∧ DecRest u v i bs) (fun a _ c _ => decLeft a c)
  case atStart => exact ⟨u, 0, [], rfl, rfl, hu, by omega, rfl, World.ownsRow_nil _ _ _ _, Below.refl _ _, by simp [DecRest]⟩
  case round =>
    obtain ⟨v, i, bs, rfl, rfl, hv, hi, hbl, hown, hb, hdr⟩ := hrel
    obtain ⟨A7, c7, rfl⟩ := hown.form
    have hl21 := hdr.len hu
    have HOWN := Lib.hid hown
    have HB := Lib.hid hb
    have HDR := Lib.hid hdr
    have hsz := hb.size
    have HBL := Lib.hid hbl
    have hi21 : i ≤ 21 := by omega
    clear hown hb hdr hbl
    by_cases hgo : 0 < v ∨ i = 0
    · have HDN := Lib.hid (HDR.out.step hgo)
      obtain ⟨d, hd⟩ : ∃ d, UInt8.ofNat (48 + v % 10) = d := ⟨_, rfl⟩
      have hdn : (d.toNat : Int) = 48 + (v : Int) % 10 := by rw [← hd, UInt8.toNat_ofNat']; omega
      rw [hd] at HDN
      clear hd
      by_cases hvp : 0 < v
      · have HDNN := Lib.hid hdn
        clear hdn hgo
        go_wp2_with (at_builtin; refine wpList_append_lies _ (by rfl) (.tmp 34) (.tmp 39) 64 (by rfl) w.heap.size 5 i0 _ 1 1 Tryd.underlying64 hi0 hq0 hq1 hq2 rfl (by omega) (.slice A7 bs.length c7) bs.length (Lib.byteCells bs) (by rfl) (World.ownsRow.alloc HOWN.out _) ⟨wr.heap.size, 0, none⟩ 1 1 [.int .u8 (48 + (v : Int) % 10)] (by rfl) (by rfl) (World.news_of_block (cs := #[.int .u8 (48 + (v : Int) % 10)]) (t := 5) (fr := (0, 0)) (heap_alloc_last wr _)) (by intro x hx; rw [List.mem_singleton.1 hx]; rfl) (by omega) (by simp only [maxLen]; omega) (by omega) (by rw [World.size_alloc]; omega) _ rfl ?_; intro gg cap w5 hown hgrow hat hlt)
        all_goals
          rw [← HDNN.out] at hown
          have hbl := HBL.out
          refine ⟨⟨v / 10, i + 1, bs ++ [d], by go_num, by go_num, by omega, by omega, by rw [List.length_append, hbl]; rfl, OwnsB.snoc hown, ?_, HDN.out⟩, ?_⟩
          · exact (HB.out.alloc hsz _).grown hgrow (by rw [World.size_alloc]; omega) (fun g hg => (World.ownsRow.lt HOWN.out g hg).1)
          · first | (simp [decLeft]; done) | (simp [decLeft]; omega)
      · obtain rfl : v = 0 := by omega
        obtain rfl : i = 0 := by omega
        have HDNN := Lib.hid (show (d.toNat : Int) = 48 by simpa using hdn)
        clear hdn hgo
        go_wp2_with (at_builtin; refine wpList_append_lies _ (by rfl) (.tmp 34) (.tmp 39) 64 (by rfl) w.heap.size 5 i0 _ 1 1 Tryd.underlying64 hi0 hq0 hq1 hq2 rfl (by omega) (.slice A7 bs.length c7) bs.length (Lib.byteCells bs) (by rfl) (World.ownsRow.alloc HOWN.out _) ⟨wr.heap.size, 0, none⟩ 1 1 [.int .u8 (48)] (by rfl) (by rfl) (World.news_of_block (cs := #[.int .u8 (48)]) (t := 5) (fr := (0, 0)) (heap_alloc_last wr _)) (by intro x hx; rw [List.mem_singleton.1 hx]; rfl) (by omega) (by simp only [maxLen]; omega) (by omega) (by rw [World.size_alloc]; omega) _ rfl ?_; intro gg cap w5 hown hgrow hat hlt)
        all_goals
          rw [← HDNN.out] at hown
          have hbl := HBL.out
          refine ⟨⟨0, 0 + 1, bs ++ [d], by go_num, by go_num, by omega, by omega, by rw [List.length_append, hbl]; rfl, OwnsB.snoc hown, ?_, HDN.out⟩, ?_⟩
          · exact (HB.out.alloc hsz _).grown hgrow (by rw [World.size_alloc]; omega) (fun g hg => (World.ownsRow.lt HOWN.out g hg).1)
          · first | (simp [decLeft]; done) | (simp [decLeft]; omega)
    · have hv0 : v = 0 := by omega
      obtain ⟨i', hi'⟩ : ∃ i', i = i' + 1 := ⟨i - 1, by omega⟩
      have HFIN := Lib.hid (show r = bs.reverse by rw [← HR.out]; have h9 := HDR.out; rw [hv0, hi'] at h9; exact h9.done)
      have hpos : 0 < bs.length := by have := HBL.out; omega
      obtain ⟨vi, hvi⟩ : ∃ vi : Int, (v : Int) = vi := ⟨_, rfl⟩
      obtain ⟨ii, hii⟩ : ∃ ii : Int, (i : Int) = ii := ⟨_, rfl⟩
      have hvn : vi ≤ 0 := by omega
      have hin : 0 < ii := by omega
      rw [hvi, hii]
      clear hvi hii hv0 hi' hgo HBL
      have hb0 : bs[0]? = some bs[0] := List.getElem?_eq_getElem (by omega)
      obtain ⟨b7, hA7, hb7, hb7l, _⟩ := OwnsB.at_ HOWN.out hb0
      subst hA7
      have HC7 := Lib.hid (fun (j : Nat) (d : UInt8) (hd : bs[j]? = some d) => (OwnsB.at_ HOWN.out hd).elim fun b' hb' => show wr.cell? ⟨b7, j, none⟩ = some (.int .u8 (d.toNat : Int)) by
        obtain ⟨e, _, _, hc⟩ := hb'
        injection e with e
        injection e with e
        subst e
        exact hc)
      obtain ⟨W1, hW1⟩ : ∃ W1, W1 = wr := ⟨_, rfl⟩
      subst hW1
      clear HDR hb0
      go_wp2_with fail
      go_loopw [9, 10] (fun a b w2 => ∃ k : Nat, k ≤ bs.length ∧ b = .int .i64 ((k : Int) - 1) ∧ OwnsB w2 W1.heap.size a (bs.drop k).reverse ∧ Below W1.heap.size W1 w2) (fun _ b _ => ((intOf b) + 1).toNat)
      case atStart => exact ⟨bs.length, Nat.le_refl _, rfl, by rw [List.drop_length]; exact World.ownsRow_nil _ _ _ _, Below.refl _ _⟩
      case round =>
        obtain ⟨k, hk, rfl, hown2, hb2⟩ := hrel
        have hrl : (bs.drop k).reverse.length = bs.length - k := by simp
        obtain ⟨A9, c9, hu9⟩ := hown2.form
        rw [hrl] at hu9
        subst hu9
        have HOWN2 := Lib.hid hown2
        have HB2 := Lib.hid hb2
        have hsz2 := hb2.size
        have HRL := Lib.hid hrl
        clear hown2 hb2 hrl
        cases k with
        | zero =>
          have hr2 : (bs.drop 0).reverse = r := by rw [HFIN.out]; rfl
          rw [hr2] at HOWN2
          have hrln : r.length = bs.length := by rw [← hr2]; simp
          have hr0 : r[0]? = some r[0] := List.getElem?_eq_getElem (by omega)
          obtain ⟨b9, hA9, -⟩ := OwnsB.at_ HOWN2.out hr0
          subst hA9
          have hcv := run_convert_bytes_back (P := Tryd.prog) wr 64 9 5 ⟨b9, 0, none⟩ c9 r Tryd.underlying64 Tryd.underlying5 Tryd.underlying9 (fun j hj => by
            obtain ⟨b', e, _, _, hc⟩ := OwnsB.at_ HOWN2.out (List.getElem?_eq_getElem hj)
            injection e with e
            injection e with e
            subst e
            rw [show (Addr.add ⟨b9, 0, none⟩ j) = ⟨b9, j, none⟩ by cases j <;> simp [Addr.add]]; exact hc)
          rw [hrln] at hcv
          have hcv2 : (convert 64 9 (.slice (some ⟨b9, 0, none⟩) bs.length c9)).run Tryd.prog wr = .ok (.string (str r)) wr := hcv
          clear hr0 hrln hr2 hcv
          rw [Nat.sub_zero]
          go_wp2_with fail
          go_ret
          exact ⟨rfl, HB.out.trans (HB2.out.mono hsz)⟩
        | succ k =>
          have hx : bs[k]? = some bs[k] := List.getElem?_eq_getElem (by omega)
          obtain ⟨d, hd⟩ : ∃ d, bs[k] = d := ⟨_, rfl⟩
          rw [hd] at hx
          have cd : wr.cell? ⟨b7, k, none⟩ = some (.int .u8 (d.toNat : Int)) := (HB2.out.cell (p := ⟨b7, k, none⟩) hb7l).trans (HC7.out k d hx)
          have hnx : (bs.drop k).reverse = (bs.drop (k + 1)).reverse ++ [d] := by rw [List.drop_eq_getElem_cons (by omega), List.reverse_cons, hd]
          have HNX := Lib.hid hnx
          have hkc : ((k + 1 : Nat) : Int) - 1 = (k : Int) := by omega
          have f0 : (0 : Int) ≤ (k : Int) := by omega
          have f1 : (k : Int) < (bs.length : Int) := by omega
          rw [hkc]
          obtain ⟨m, hm⟩ : ∃ m, bs.length - (k + 1) = m := ⟨_, rfl⟩
          have hml : (bs.drop (k + 1)).reverse.length = m := by rw [← hm]; simp
          rw [hm] at HOWN2 ⊢
          have HM := Lib.hid hml
          have hm21 : m ≤ 30 := by omega
          clear hx hd hnx hkc hm hml
          go_wp2_with (at_builtin; refine wpList_append_lies _ (by rfl) (.tmp 55) (.tmp 60) 64 (by rfl) W1.heap.size 5 i0 _ 1 1 Tryd.underlying64 hi0 hq0 hq1 hq2 rfl (by omega) (.slice A9 m c9) m (Lib.byteCells (bs.drop (k + 1)).reverse) (by rfl) (World.ownsRow.alloc (show wr.ownsRow W1.heap.size 5 1 (.slice A9 m c9) m (Lib.byteCells (bs.drop (k + 1)).reverse) by have h9 := HOWN2.out; unfold OwnsB at h9; rw [HM.out] at h9; exact h9) _) ⟨wr.heap.size, 0, none⟩ 1 1 [.int .u8 (d.toNat : Int)] (by rfl) (by rfl) (World.news_of_block (cs := #[.int .u8 (d.toNat : Int)]) (t := 5) (fr := (0, 0)) (heap_alloc_last wr _)) (by intro x hx; rw [List.mem_singleton.1 hx]; rfl) (by omega) (by simp only [maxLen]; omega) (by omega) (by rw [World.size_alloc]; omega) _ rfl ?_; intro gg cap w5 hown hgrow hat hlt)
          refine ⟨⟨k, by omega, by go_num, ?_, ?_⟩, ?_⟩
          · rw [HNX.out]
            have hml := HM.out
            rw [← hml] at hown ⊢
            exact OwnsB.snoc hown
          · exact (HB2.out.alloc hsz2 _).grown hgrow (by rw [World.size_alloc]; omega) (fun g hg => (World.ownsRow.lt HOWN2.out g hg).1)
          · first | (simp [intOf]; done) | (simp [intOf]; omega)

set_option maxHeartbeats 400000 in
theorem prNumber_any (n : Int) (h0 : 0 ≤ n) (h1 : n ≤ 1000000) (w : World) : Calls Tryd.prog 44 #[.int .i64 n] w fun e w' => e = .returned (.string (str (Lib.itoa n))) ∧ Below w.heap.size w w' := by
  obtain ⟨u, rfl⟩ : ∃ u : Nat, n = u := ⟨n.toNat, by omega⟩
  have he : Lib.itoa (u : Int) = Lib.decDigits u := by rw [Lib.itoa, if_neg (by omega), Int.toNat_natCast]
  rw [he]
  go_enter Tryd.func44, Tryd.ntmps44
  go_wp2_with fail
  refine (decimal0_any u (by omega) _).mono ?_
  rintro e w1 ⟨rfl, hb1⟩
  have HB1 := Lib.hid hb1
  clear hb1
  go_wp2_with fail
  go_ret
  exact ⟨rfl, HB1.out⟩

end Go.Proofs.YtokgonpeolppnaaDoor
