/-
  The contracts of sawmillref06's Digits and of sawmillref21's text, wellFormed, Format.
-/
import Derived.Test.YtbmcfodhjibooaaDoorPbB
import Derived.Test.YtbmcfodhjibooaaDoorPaS
import Derived.Test.YtbmcfodhjibooaaDoorPaL
import Derived.Lib.ItoaLen
import Derived.Deep.Cut
namespace Go.Proofs.YtbmcfodhjibooaaDoor
open Go.RowKit Saw Go.Sort
theorem dec_lenN (u : Nat) (h : u ≤ 9223372036854775807) : (Lib.decDigits u).length ≤ 21 := by
  have := Lib.itoa_length_le (u : Int) (by omega) (by omega)
  rw [Lib.itoa, if_neg (by omega), Int.toNat_natCast] at this
  exact this
theorem natSmall_any (u : Nat) (hu : u < 10) (w : World) : Calls Tryd.prog 89 #[.int .u64 u] w fun e w' => e = .returned (.string (str (Lib.decDigits u))) ∧ w = w' := by
  rw [Lib.decDigits_one hu]
  obtain rfl | rfl | rfl | rfl | rfl | rfl | rfl | rfl | rfl | rfl : u = 0 ∨ u = 1 ∨ u = 2 ∨ u = 3 ∨ u = 4 ∨ u = 5 ∨ u = 6 ∨ u = 7 ∨ u = 8 ∨ u = 9 := by omega
  all_goals
    go_enter Tryd.func89, Tryd.ntmps89
    go_wp2_with fail
    go_ret
    exact ⟨rfl, rfl⟩
set_option maxHeartbeats 1000000 in
theorem natural_any : ∀ (N u : Nat), u ≤ N → u ≤ 9223372036854775807 → ∀ (w : World), Calls Tryd.prog 89 #[.int .u64 u] w fun e w' => e = .returned (.string (str (Lib.decDigits u))) ∧ w = w' := by
  intro N
  induction N with
  | zero => intro u h _ w; exact natSmall_any u (by omega) w
  | succ N ih =>
    intro u hu hm w
    by_cases hs : u < 10
    · exact natSmall_any u hs w
    · have hnl : ¬ (u : Int) < 10 := by omega
      have IH := Lib.hid (ih (u / 10) (by omega) (by omega))
      have IS := Lib.hid (natSmall_any (u % 10) (Nat.mod_lt _ (by decide)))
      have HD := Lib.hid (show Lib.decDigits u = Lib.decDigits (u / 10) ++ [UInt8.ofNat (48 + u % 10)] by rw [Lib.decDigits, dif_neg hs])
      have HM := Lib.hid (show Lib.decDigits (u % 10) = [UInt8.ofNat (48 + u % 10)] from Lib.decDigits_one (Nat.mod_lt _ (by decide)))
      have hl := dec_lenN (u / 10) (by omega)
      obtain ⟨s, hs'⟩ : ∃ s, Lib.decDigits (u / 10) = s := ⟨_, rfl⟩
      obtain ⟨d, hd⟩ : ∃ d, UInt8.ofNat (48 + u % 10) = d := ⟨_, rfl⟩
      rw [hs'] at hl HD IH
      rw [hd] at HD HM
      rw [HM.out] at IS
      have hz : (str s).size ≤ 21 := by rw [size_str]; exact hl
      have hz1 : (str [d]).size = 1 := rfl
      clear ih hs' hd hl hs
      go_enter Tryd.func89, Tryd.ntmps89
      go_wp2_with fail
      refine (IH.out _).mono ?_
      rintro e w1 ⟨rfl, rfl⟩
      go_wp2_with fail
      refine (IS.out _).mono ?_
      rintro e w1 ⟨rfl, rfl⟩
      go_wp2_with fail
      go_ret
      refine ⟨?_, rfl⟩
      rw [HD.out, ← str_append]
      rfl
set_option maxHeartbeats 1000000 in
theorem digits_any (n : Int) (h0 : -9223372036854775807 ≤ n) (h1 : n ≤ 9223372036854775807) (w : World) : Calls Tryd.prog 61 #[.int .i64 n] w fun e w' => e = .returned (.string (str (Lib.itoa n))) ∧ w = w' := by
  by_cases hn : n < 0
  · obtain ⟨u, rfl⟩ : ∃ u : Nat, n = -(u : Int) := ⟨n.natAbs, by omega⟩
    have IH := Lib.hid (natural_any u u (Nat.le_refl _) (by omega))
    have HD := Lib.hid (show Lib.itoa (-(u : Int)) = 45 :: Lib.decDigits u by rw [Lib.itoa, if_pos hn, Int.natAbs_neg, Int.natAbs_natCast])
    have hl := dec_lenN u (by omega)
    obtain ⟨s, hs'⟩ : ∃ s, Lib.decDigits u = s := ⟨_, rfl⟩
    rw [hs'] at hl HD IH
    have hz : (str s).size ≤ 21 := by rw [size_str]; exact hl
    clear hs' hl
    go_enter Tryd.func61, Tryd.ntmps61
    go_wp2_with fail
    rw [show (-(-(u : Int) + 1) + 1) = (u : Int) by omega]
    refine (IH.out _).mono ?_
    rintro e w1 ⟨rfl, rfl⟩
    go_wp2_with fail
    go_ret
    refine ⟨?_, rfl⟩
    rw [HD.out]
    exact congrArg (fun t => Ending.returned (.string t)) (str_append [45] s)
  · obtain ⟨u, rfl⟩ := Int.eq_ofNat_of_zero_le (Int.not_lt.1 hn)
    have IH := Lib.hid (natural_any u u (Nat.le_refl _) (by omega))
    have HD := Lib.hid (show Lib.itoa (u : Int) = Lib.decDigits u by rw [Lib.itoa, if_neg hn, Int.toNat_natCast])
    rw [HD.out]
    have hn' : ¬ (u : Int) < 0 := by omega
    go_enter Tryd.func61, Tryd.ntmps61
    go_wp2_with fail
    refine (IH.out _).mono ?_
    rintro e w1 ⟨rfl, rfl⟩
    go_wp2_with fail
    go_ret
    exact ⟨rfl, rfl⟩


theorem str_fin2 {s : ByteArray} {l : List UInt8} (h : bts s = l) : Ending.returned (.string s) = .returned (.string (str l)) := by rw [← h, str_bts]
theorem str_fin3 {s : ByteArray} {l : List UInt8} (h : bts s = l) : s = str l := by rw [← h, str_bts]
end Go.Proofs.YtbmcfodhjibooaaDoor
namespace Saw
/-- The text of a tree, as the reference joins it. -/
def strT : Tr → List UInt8
  | .leaf k p => if k = 0 then [123, 32] ++ wasteW ++ [32, 125] else [123, 32] ++ boardW ++ [32] ++ Go.Lib.itoa p ++ [32, 125]
  | .rip k p a b => [123, 32] ++ (if k = 3 then [121] else [120]) ++ [32] ++ Go.Lib.itoa p ++ [32] ++ strT a ++ [32] ++ strT b ++ [32, 125]
end Saw
namespace Go.Proofs.YtbmcfodhjibooaaDoor
open Go.RowKit Saw Go.Sort
theorem join_consW (x : List UInt8) (l : List (List UInt8)) : Go.Lib.join (x :: l) [32] = x ++ l.flatMap (fun y => 32 :: y) := by
  induction l generalizing x with
  | nil => simp [Go.Lib.join]
  | cons y r ih =>
    have h := ih y
    unfold Go.Lib.join at h ⊢
    rw [List.intercalate_cons_cons, h, List.flatMap_cons]
    simp
theorem join_app (a b : List (List UInt8)) (ha : a ≠ []) (hb : b ≠ []) : Go.Lib.join (a ++ b) [32] = Go.Lib.join a [32] ++ [32] ++ Go.Lib.join b [32] := by
  cases a with
  | nil => exact absurd rfl ha
  | cons x l =>
    cases b with
    | nil => exact absurd rfl hb
    | cons y m =>
      rw [List.cons_append, join_consW, join_consW, join_consW, List.flatMap_append, List.flatMap_cons]
      simp
theorem words_ne (t : Tr) : t.words ≠ [] := by cases t <;> simp [Tr.words]
theorem strT_join : ∀ t : Tr, t.ok = true → strT t = Go.Lib.join t.words [32]
  | .leaf k p, ho => by
    rw [Tr.ok, Bool.or_eq_true, decide_eq_true_eq, decide_eq_true_eq] at ho
    rcases ho with rfl | rfl
    · simp [strT, Tr.words, ndWords, Go.Lib.join]
    · simp [strT, Tr.words, ndWords, Go.Lib.join]
  | .rip k p a b, ho => by
    rw [Tr.ok, Bool.and_eq_true, Bool.and_eq_true, Bool.or_eq_true, decide_eq_true_eq, decide_eq_true_eq] at ho
    obtain ⟨hk, ha, hb⟩ := ho
    rw [strT, strT_join a ha, strT_join b hb, Tr.words]
    have e1 : ([123] :: (ndWords k p ++ (a.words ++ (b.words ++ [[125]])))) = ([123] :: ndWords k p) ++ (a.words ++ (b.words ++ [[125]])) := rfl
    rw [e1, join_app _ _ (by simp) (by simp [words_ne]), join_app _ _ (words_ne a) (by simp [words_ne]), join_app _ _ (words_ne b) (by simp)]
    rcases hk with rfl | rfl
    · simp [ndWords, Go.Lib.join]
    · simp [ndWords, Go.Lib.join]
theorem strT_len : ∀ t : Tr, (∀ n ∈ t.nodes, inLim n = true) → (strT t).length ≤ 20 * t.nodes.length
  | .leaf k p, h => by
    have h1 := h ⟨k, p⟩ (by simp [Tr.nodes])
    rw [Tr.nodes, List.length_singleton, strT]
    split
    · simp [wasteW]
    · have h2 : -600 ≤ p ∧ p ≤ 600 := by
        unfold inLim at h1
        rw [Bool.and_eq_true, decide_eq_true_eq, decide_eq_true_eq] at h1
        unfold loP hiP at h1
        (repeat' split at h1) <;> simp only at h1 <;> omega
      have := itoa_len4 p h2.1 h2.2
      simp [boardW]
      omega
  | .rip k p a b, h => by
    have h1 := h ⟨k, p⟩ (by simp [Tr.nodes])
    have ha := strT_len a (fun n hn => h n (by simp [Tr.nodes, hn]))
    have hb := strT_len b (fun n hn => h n (by simp [Tr.nodes, hn]))
    have h2 : -600 ≤ p ∧ p ≤ 600 := by
      unfold inLim at h1
      rw [Bool.and_eq_true, decide_eq_true_eq, decide_eq_true_eq] at h1
      unfold loP hiP at h1
      (repeat' split at h1) <;> simp only at h1 <;> omega
    have := itoa_len4 p h2.1 h2.2
    rw [Tr.nodes, strT, List.length_cons, List.length_append]
    have e : (if k = 3 then [121] else [120] : List UInt8).length = 1 := by split <;> rfl
    simp only [List.length_append, List.length_cons, List.length_nil, e]
    omega
def TextPo (w : World) (at_ : Nat) (t : Tr) (e : Ending) (w' : World) : Prop := e = .returned (.tuple #[.string (str (strT t)), .int .i64 ((at_ + t.nodes.length : Nat) : Int)]) ∧ Below w.heap.size w w'

set_option maxRecDepth 100000 in
set_option maxHeartbeats 4000000 in
theorem rtextT_any (ns : List Nd) (nv : Value) (B : Nat) (hl : ns.length ≤ 127) : ∀ (t : Tr) (at_ : Nat) (rest : List Nd) (w : World), RdNd w B nv ns → B ≤ w.heap.size → t.ok = true → (∀ n ∈ t.nodes, inLim n = true) → ns.drop at_ = t.nodes ++ rest →
    Calls Tryd.prog 60 #[nv, .int .i64 at_] w (TextPo w at_ t) := by
  intro t
  induction t with
  | leaf k p =>
    intro at_ rest w hns hB ho hlim hd
    obtain ⟨A, c, rfl, hc, hml⟩ := hns.form
    unfold maxLen at hml
    rw [Tr.nodes, List.cons_append] at hd
    have hn : ns[at_]? = some ⟨k, p⟩ := by
      have h := congrArg (fun l => l[0]?) hd
      simp only [List.getElem?_drop, Nat.add_zero, List.getElem?_cons_zero] at h
      exact h
    have hlt : at_ < ns.length := (List.getElem?_eq_some_iff.1 hn).1
    obtain ⟨b, off, rfl, hb, d0, d1⟩ := hns.at_ hn
    simp only at d0 d1
    have hbw : b < w.heap.size := by omega
    have h2 : -600 ≤ p ∧ p ≤ 600 := by
      have h1 := hlim ⟨k, p⟩ (by simp [Tr.nodes])
      unfold inLim at h1
      rw [Bool.and_eq_true, decide_eq_true_eq, decide_eq_true_eq] at h1
      unfold loP hiP at h1
      (repeat' split at h1) <;> simp only at h1 <;> omega
    rw [Tr.ok, Bool.or_eq_true, decide_eq_true_eq, decide_eq_true_eq] at ho
    have HB := Lib.hid (fun (o : Obj) => bel_alloc (ob := o) (Below.refl w.heap.size w))
    have HDG := Lib.hid (digits_any p (by omega) (by omega))
    have hz : (str (Lib.itoa p)).size ≤ 4 := by rw [size_str]; exact itoa_len4 p h2.1 h2.2
    have HL1 := Lib.hid (show ((at_ + (Tr.leaf k p).nodes.length : Nat) : Int) = at_ + 1 by rw [Tr.nodes, List.length_singleton]; omega)
    clear hns hlim hd hn
    rcases ho with rfl | rfl
    · go_enter Tryd.func60, Tryd.ntmps60
      go_wp2_with fail
      refine bodyPost_ret (v := .tuple #[.string (str (strT (.leaf 0 p))), .int .i64 (at_ + 1)]) (by simp [results, Tryd.results60, go_sem]; rfl) rfl ⟨by rw [HL1.out], HB.out _⟩
    · go_enter Tryd.func60, Tryd.ntmps60
      go_wp2_with fail
      refine (HDG.out _).mono ?_
      rintro e w1 ⟨rfl, rfl⟩
      go_wp2_with fail
      have hs : (⟨#[123, 32, 98, 111, 97, 114, 100, 32]⟩ : ByteArray) ++ str (Lib.itoa p) ++ ⟨#[32, 125]⟩ = str (strT (.leaf 1 p)) := str_fin3 (by simp only [bts_append, bts_str]; rfl)
      rw [hs]
      refine bodyPost_ret (v := .tuple #[.string (str (strT (.leaf 1 p))), .int .i64 (at_ + 1)]) (by simp [results, Tryd.results60, go_sem]) rfl ⟨by rw [HL1.out], HB.out _⟩
  | rip k p a b iha ihb =>
    intro at_ rest w hns hB ho hlim hd
    obtain ⟨A, c, rfl, hc, hml⟩ := hns.form
    unfold maxLen at hml
    rw [Tr.nodes, List.cons_append] at hd
    have hn : ns[at_]? = some ⟨k, p⟩ := by
      have h := congrArg (fun l => l[0]?) hd
      simp only [List.getElem?_drop, Nat.add_zero, List.getElem?_cons_zero] at h
      exact h
    have hlt : at_ < ns.length := (List.getElem?_eq_some_iff.1 hn).1
    have hd1 : ns.drop (at_ + 1) = a.nodes ++ (b.nodes ++ rest) := by
      rw [List.drop_eq_getElem_cons hlt] at hd
      injection hd with _ hd
      rw [hd, List.append_assoc]
    have hd2 : ns.drop (at_ + 1 + a.nodes.length) = b.nodes ++ rest := by
      rw [← List.drop_drop, hd1, List.drop_left]
    obtain ⟨bb, off, rfl, hb, d0, d1⟩ := hns.at_ hn
    simp only at d0 d1
    have hbw : bb < w.heap.size := by omega
    have h2 : -600 ≤ p ∧ p ≤ 600 := by
      have h1 := hlim ⟨k, p⟩ (by simp [Tr.nodes])
      unfold inLim at h1
      rw [Bool.and_eq_true, decide_eq_true_eq, decide_eq_true_eq] at h1
      unfold loP hiP at h1
      (repeat' split at h1) <;> simp only at h1 <;> omega
    rw [Tr.ok, Bool.and_eq_true, Bool.and_eq_true, Bool.or_eq_true, decide_eq_true_eq, decide_eq_true_eq] at ho
    obtain ⟨hk, hoa, hob⟩ := ho
    have hla : ∀ n ∈ a.nodes, inLim n = true := fun n hn => hlim n (by simp [Tr.nodes, hn])
    have hlb : ∀ n ∈ b.nodes, inLim n = true := fun n hn => hlim n (by simp [Tr.nodes, hn])
    have hza := strT_len a hla
    have hzb := strT_len b hlb
    have hnn : at_ + 1 + a.nodes.length + b.nodes.length ≤ ns.length := by
      have h := congrArg List.length hd2
      rw [List.length_drop, List.length_append] at h
      have := Tr.nodes_pos b
      omega
    obtain ⟨W0, hW0⟩ : ∃ W0, w.alloc (.cells #[.int .i64 k, .int .i64 p] 64) = W0 := ⟨_, rfl⟩
    have hb0 : Below w.heap.size w W0 := by rw [← hW0]; exact bel_alloc (Below.refl _ _)
    have hn0 : W0.heap[w.heap.size]? = some (.cells #[.int .i64 k, .int .i64 p] 64 (0, 0)) := by rw [← hW0]; exact heap_alloc_last w _
    have HB0 := Lib.hid hb0
    have HN0 := Lib.hid hn0
    have HNS := Lib.hid hns
    have hbB := hb0.mono hB
    have HCA := Lib.hid (iha (at_ + 1) (b.nodes ++ rest) W0 (hns.below hbB) (Nat.le_trans hB hb0.size) hoa hla hd1)
    have HCB := Lib.hid (fun (W : World) (h : Below w.heap.size w W) => ihb (at_ + 1 + a.nodes.length) rest W (hns.below (h.mono hB)) (Nat.le_trans hB h.size) hob hlb hd2)
    have HDG := Lib.hid (digits_any p (by omega) (by omega))
    have hz : (str (Lib.itoa p)).size ≤ 4 := by rw [size_str]; exact itoa_len4 p h2.1 h2.2
    obtain ⟨sa, hsa⟩ : ∃ sa, strT a = sa := ⟨_, rfl⟩
    obtain ⟨sb, hsb⟩ : ∃ sb, strT b = sb := ⟨_, rfl⟩
    have hz1 : (str sa).size ≤ 2540 := by rw [size_str, ← hsa]; omega
    have hz2 : (str sb).size ≤ 2540 := by rw [size_str, ← hsb]; omega
    obtain ⟨j1, hj1⟩ : ∃ j1, at_ + 1 + a.nodes.length = j1 := ⟨_, rfl⟩
    obtain ⟨j2, hj2⟩ : ∃ j2, j1 + b.nodes.length = j2 := ⟨_, rfl⟩
    have HL := Lib.hid (show at_ + (Tr.rip k p a b).nodes.length = j2 by rw [Tr.nodes, List.length_cons, List.length_append]; omega)
    unfold TextPo at HCA HCB
    rw [hsa, hj1] at HCA
    rw [hsb] at HCB
    simp only [hj1, hj2] at HCB
    have HSA := Lib.hid (And.intro hsa hsb)
    have hj1b : j1 ≤ 127 := by omega
    have hatb : at_ ≤ 127 := by omega
    obtain ⟨p0, p1⟩ := cells2 hn0
    have HWH := Lib.hid hW0
    have hkw : ((k == 0) = false ∧ (k == 1) = false) := ⟨by rw [beq_eq_false_iff_ne]; omega, by rw [beq_eq_false_iff_ne]; omega⟩
    obtain ⟨kw0, kw1⟩ := hkw
    have hkc : ((k == 3) = false ∧ k = 2) ∨ ((k == 3) = true ∧ k = 3) := by
      rcases hk with h | h
      · left; exact ⟨by rw [beq_eq_false_iff_ne]; omega, h⟩
      · right; exact ⟨by rw [beq_iff_eq]; exact h, h⟩
    clear hns hlim hd hn hd1 hd2 iha ihb hza hzb hnn hsa hsb hj1 hj2 hla hlb hoa hob hk hn0 hb0 hbB
    rcases hkc with ⟨kw3, hk⟩ | ⟨kw3, hk⟩
    · have HK := Lib.hid hk
      clear hk
      clear hW0
      go_enter Tryd.func60, Tryd.ntmps60
      go_upto_region 10 with fail
      rw [HWH.out]
      go_wp2_with fail
      refine HCA.out.mono ?_
      rintro e w1 ⟨he, hb1⟩
      subst he
      have HB1 := Lib.hid (bel_call HB0.out hb1)
      have hn1 := (hb1.block w.heap.size (Array.getElem?_eq_some_iff.1 HN0.out).1).trans HN0.out
      clear hb1 p0 p1
      go_wp2_with fail
      refine (HCB.out w1 HB1.out).mono ?_
      rintro e w2 ⟨he, hb2⟩
      subst he
      have HB2 := Lib.hid (bel_call HB1.out hb2)
      have hn2 := (hb2.block w.heap.size (Array.getElem?_eq_some_iff.1 hn1).1).trans hn1
      clear hb2 hn1
      obtain ⟨p0, p1⟩ := cells2 hn2
      clear hn2
      go_wp2_with fail
      refine (HDG.out _).mono ?_
      rintro e w3 ⟨rfl, rfl⟩
      go_wp2_with fail
      have hs : (⟨#[123, 32]⟩ : ByteArray) ++ ⟨#[120]⟩ ++ ⟨#[32]⟩ ++ str (Lib.itoa p) ++ ⟨#[32]⟩ ++ str sa ++ ⟨#[32]⟩ ++ str sb ++ ⟨#[32, 125]⟩ = str (strT (.rip k p a b)) := str_fin3 (by rw [strT, HSA.out.1, HSA.out.2, HK.out]; simp only [bts_append, bts_str]; rfl)
      rw [hs]
      refine bodyPost_ret (v := .tuple #[.string (str (strT (.rip k p a b))), .int .i64 j2]) (by simp [results, Tryd.results60, go_sem]) rfl ⟨by rw [HL.out], HB2.out⟩
    · have HK := Lib.hid hk
      clear hk
      clear hW0
      go_enter Tryd.func60, Tryd.ntmps60
      go_upto_region 10 with fail
      rw [HWH.out]
      go_wp2_with fail
      refine HCA.out.mono ?_
      rintro e w1 ⟨he, hb1⟩
      subst he
      have HB1 := Lib.hid (bel_call HB0.out hb1)
      have hn1 := (hb1.block w.heap.size (Array.getElem?_eq_some_iff.1 HN0.out).1).trans HN0.out
      clear hb1 p0 p1
      go_wp2_with fail
      refine (HCB.out w1 HB1.out).mono ?_
      rintro e w2 ⟨he, hb2⟩
      subst he
      have HB2 := Lib.hid (bel_call HB1.out hb2)
      have hn2 := (hb2.block w.heap.size (Array.getElem?_eq_some_iff.1 hn1).1).trans hn1
      clear hb2 hn1
      obtain ⟨p0, p1⟩ := cells2 hn2
      clear hn2
      go_wp2_with fail
      refine (HDG.out _).mono ?_
      rintro e w3 ⟨rfl, rfl⟩
      go_wp2_with fail
      have hs : (⟨#[123, 32]⟩ : ByteArray) ++ ⟨#[121]⟩ ++ ⟨#[32]⟩ ++ str (Lib.itoa p) ++ ⟨#[32]⟩ ++ str sa ++ ⟨#[32]⟩ ++ str sb ++ ⟨#[32, 125]⟩ = str (strT (.rip k p a b)) := str_fin3 (by rw [strT, HSA.out.1, HSA.out.2, HK.out]; simp only [bts_append, bts_str]; rfl)
      rw [hs]
      refine bodyPost_ret (v := .tuple #[.string (str (strT (.rip k p a b))), .int .i64 j2]) (by simp [results, Tryd.results60, go_sem]) rfl ⟨by rw [HL.out], HB2.out⟩

theorem inLim_iff {n : Nd} (h0 : 0 ≤ n.kind) (h3 : n.kind ≤ 3) : inLim n = true ↔ ¬ ((n.kind = 0 ∧ n.pos ≠ 0) ∨ (n.kind = 1 ∧ (n.pos < 0 ∨ 16 ≤ n.pos)) ∨ (2 ≤ n.kind ∧ (n.pos < -600 ∨ 600 < n.pos))) := by
  unfold inLim
  rw [Bool.and_eq_true, decide_eq_true_eq, decide_eq_true_eq]
  unfold loP hiP
  by_cases k0 : n.kind = 0
  · rw [if_pos (.inl k0), if_pos k0]; omega
  · by_cases k1 : n.kind = 1
    · rw [if_pos (.inr k1), if_neg k0, if_pos k1]; omega
    · rw [if_neg (by omega), if_neg k0, if_neg k1]; omega
theorem kinds_ok : ∀ t : Tr, t.ok = true → ∀ n ∈ t.nodes, 0 ≤ n.kind ∧ n.kind ≤ 3
  | .leaf k p, ho, n, hn => by
    rw [Tr.ok, Bool.or_eq_true, decide_eq_true_eq, decide_eq_true_eq] at ho
    rw [Tr.nodes, List.mem_singleton] at hn
    subst hn
    simp only
    omega
  | .rip k p a b, ho, n, hn => by
    rw [Tr.ok, Bool.and_eq_true, Bool.and_eq_true, Bool.or_eq_true, decide_eq_true_eq, decide_eq_true_eq] at ho
    rw [Tr.nodes, List.mem_cons, List.mem_append] at hn
    rcases hn with rfl | hn | hn
    · simp only; omega
    · exact kinds_ok a ho.2.1 n hn
    · exact kinds_ok b ho.2.2 n hn

set_option maxRecDepth 100000 in
set_option maxHeartbeats 4000000 in
theorem wellFormed_any (r : Rc) (ns : List Nd) (nv : Value) (w : World) (hns : RdNd w w.heap.size nv ns) (hl : ns.length ≤ 100000) :
    Calls Tryd.prog 59 #[.agg #[.int .i64 r.xa, .int .i64 r.xb, .int .i64 r.ya, .int .i64 r.yb, nv]] w (BoolB (wellPt r ns) w) := by
  obtain ⟨A, c, rfl, hc, hml⟩ := hns.form
  unfold maxLen at hml
  obtain ⟨q, hq⟩ : ∃ q, wellPt r ns = q := ⟨_, rfl⟩
  rw [hq]
  have HNS := Lib.hid hns
  obtain ⟨W0, hW0⟩ : ∃ W0, w.alloc (.cells #[.int .i64 r.xa, .int .i64 r.xb, .int .i64 r.ya, .int .i64 r.yb, .slice A ns.length c] 28) = W0 := ⟨_, rfl⟩
  have hb0 : Below w.heap.size w W0 := by rw [← hW0]; exact (Below.refl _ _).alloc (Nat.le_refl _) _
  have hp0 : PatAt W0 w.heap.size r (.slice A ns.length c) := by rw [← hW0]; exact heap_alloc_last w _
  obtain ⟨p0, p1, p2, p3, p4⟩ := cells5 hp0
  have HP0 := Lib.hid hp0
  have HB0 := Lib.hid hb0
  have HDP := Lib.hid (rDepth_any r ns (.slice A ns.length c) W0 (hns.next hb0) hl)
  obtain ⟨d, hd⟩ : ∃ d, depthP ns = d := ⟨_, rfl⟩
  rw [hd] at HDP
  obtain ⟨fr, hfr⟩ : ∃ fr, frameP r = fr := ⟨_, rfl⟩
  have HIF := Lib.hid (fun W => hfr ▸ rFramed_any r W)
  have HWL := Lib.hid (show q = true ↔ fr = true ∧ d ≠ 0 ∧ d ≤ 64 ∧ ∀ n ∈ ns, inLim n = true by rw [← hq, wellPt_iff, hfr, hd])
  have HD := Lib.hid hd
  have hd0 : 0 ≤ d := by
    by_cases h : d = 0
    · omega
    · obtain ⟨t, ho, e, hdd, _⟩ := depth_tree (ns := ns) (by rw [hd]; exact h)
      have := Tr.depth_pos t
      omega
  clear hq hns hb0 hp0 hd hfr
  go_enter Tryd.func59, Tryd.ntmps59
  go_wp2_with fail
  refine HDP.out.mono ?_
  rintro e w1 ⟨he, hb1⟩
  subst he
  have hs1 := hb1.size
  have HP1 := Lib.hid ((hb1.block w.heap.size (Array.getElem?_eq_some_iff.1 HP0.out).1).trans HP0.out)
  have HB1 := Lib.hid (HB0.out.trans (hb1.mono HB0.out.size))
  clear p0 p1 p2 p3 p4 hb1
  obtain ⟨p0, p1, p2, p3, p4⟩ := cells5 HP1.out
  go_wp2_with fail
  refine (HIF.out _).mono ?_
  rintro e w2 ⟨he, hb2⟩
  subst he
  have HP2 := Lib.hid ((hb2.block w.heap.size (Array.getElem?_eq_some_iff.1 HP1.out).1).trans HP1.out)
  have HB2 := Lib.hid (HB1.out.trans (hb2.mono HB1.out.size))
  clear p0 p1 p2 p3 p4 hb2
  obtain ⟨p0, p1, p2, p3, p4⟩ := cells5 HP2.out
  by_cases hbad : fr = true ∧ d ≠ 0 ∧ d ≤ 64
  · obtain ⟨rfl, hdn, hd64⟩ := hbad
    have hdb : (d == 0) = false := by rw [beq_eq_false_iff_ne]; exact hdn
    have HKN := Lib.hid (show ∀ n ∈ ns, 0 ≤ n.kind ∧ n.kind ≤ 3 by
      obtain ⟨t, ho, e, _⟩ := depth_tree (ns := ns) (by rw [HD.out]; exact hdn)
      rw [e]
      exact kinds_ok t ho)
    have HW2 := Lib.hid (show q = true ↔ ∀ n ∈ ns, inLim n = true from ⟨fun h => (HWL.out.1 h).2.2.2, fun h => HWL.out.2 ⟨rfl, hdn, hd64, h⟩⟩)
    clear hdn HWL
    go_wp2_with fail
    go_loopw [4] (fun iv wr => ∃ k : Nat, iv = .int .i64 k ∧ k ≤ ns.length ∧ Below w2.heap.size w2 wr ∧ ∀ n ∈ ns.take k, inLim n = true) (fun i _ => ns.length - (intOf i).toNat)
    case atStart => exact ⟨0, rfl, by omega, Below.refl _ _, by simp⟩
    case round =>
      obtain ⟨k, rfl, hkl, hbw, htk⟩ := hrel
      have HBW := Lib.hid hbw
      have HTK := Lib.hid htk
      have hpw := (hbw.block w.heap.size (Array.getElem?_eq_some_iff.1 HP2.out).1).trans HP2.out
      have hNw : w.heap.size < wr.heap.size := (Array.getElem?_eq_some_iff.1 hpw).1
      clear p0 p1 p2 p3 p4 hbw htk
      obtain ⟨p0, p1, p2, p3, p4⟩ := cells5 hpw
      clear hpw
      by_cases hlt : k < ns.length
      · obtain ⟨⟨nk, np⟩, hn⟩ : ∃ n, ns[k]? = some n := ⟨_, List.getElem?_eq_getElem hlt⟩
        obtain ⟨b, off, rfl, hb, d0, d1⟩ := (HNS.out.below (HB2.out.trans (HBW.out.mono HB2.out.size))).at_ hn
        simp only at d0 d1
        have hkk := HKN.out ⟨nk, np⟩ (List.mem_of_getElem? hn)
        have HLI := Lib.hid (inLim_iff (n := ⟨nk, np⟩) hkk.1 hkk.2)
        obtain ⟨k0, k3⟩ := hkk
        simp only at k0 k3
        have HN := Lib.hid hn
        have f1 : (0 : Int) ≤ (k : Int) := by omega
        have f2 : (k : Int) < (ns.length : Int) := by omega
        have hbw : b < wr.heap.size := by omega
        clear hn
        have HAL := Lib.hid (fun o => HBW.out.alloc HBW.out.size o)
        by_cases hbn : (nk = 0 ∧ np ≠ 0) ∨ (nk = 1 ∧ (np < 0 ∨ 16 ≤ np)) ∨ (2 ≤ nk ∧ (np < -600 ∨ 600 < np))
        · have HZ := Lib.hid (show q = false by
            cases hq : q with
            | false => rfl
            | true => exact absurd hbn (HLI.out.1 (HW2.out.1 hq _ (List.mem_of_getElem? HN.out))))
          have HBN := Lib.hid hbn
          clear HW2 HLI hbn HN
          rcases HBN.out with ⟨rfl, hp⟩ | ⟨rfl, hp⟩ | ⟨h2, hp⟩
          · have hpb : (np != 0) = true := by rw [bne_iff_ne]; exact hp
            go_wp2_with fail
            go_ret
            exact ⟨ret_bool HZ.out.symm, HB2.out.trans ((HAL.out _).mono HB2.out.size)⟩
          · rcases hp with hp | hp
            · go_wp2_with fail
              go_ret
              exact ⟨ret_bool HZ.out.symm, HB2.out.trans ((HAL.out _).mono HB2.out.size)⟩
            · have hp0 : ¬ np < 0 := by omega
              go_wp2_with fail
              go_ret
              exact ⟨ret_bool HZ.out.symm, HB2.out.trans ((HAL.out _).mono HB2.out.size)⟩
          · have e0 : (nk == 0) = false := by rw [beq_eq_false_iff_ne]; omega
            have e1 : (nk == 1) = false := by rw [beq_eq_false_iff_ne]; omega
            rcases hp with hp | hp
            · go_wp2_with fail
              go_ret
              exact ⟨ret_bool HZ.out.symm, HB2.out.trans ((HAL.out _).mono HB2.out.size)⟩
            · have hp0 : ¬ np < -600 := by omega
              go_wp2_with fail
              go_ret
              exact ⟨ret_bool HZ.out.symm, HB2.out.trans ((HAL.out _).mono HB2.out.size)⟩
        · have HT1 := Lib.hid (show ∀ n ∈ ns.take (k + 1), inLim n = true by
            intro n hn
            rw [List.take_add_one, HN.out, List.mem_append] at hn
            rcases hn with hn | hn
            · exact HTK.out n hn
            · have hn : n = ⟨nk, np⟩ := by simpa using hn
              subst hn
              exact HLI.out.2 hbn)
          have hkc : (nk = 0 ∧ np = 0) ∨ (nk = 1 ∧ ¬ np < 0 ∧ ¬ 16 ≤ np) ∨ (2 ≤ nk ∧ ¬ np < -600 ∧ ¬ 600 < np) := by omega
          clear HW2 HLI hbn HN HTK
          rcases hkc with ⟨rfl, rfl⟩ | ⟨rfl, hp, hp2⟩ | ⟨h2, hp, hp2⟩
          · go_wp2_with fail
            exact ⟨⟨k + 1, by go_num, by omega, HAL.out _, HT1.out⟩, by simp [intOf]; omega⟩
          · go_wp2_with fail
            exact ⟨⟨k + 1, by go_num, by omega, HAL.out _, HT1.out⟩, by simp [intOf]; omega⟩
          · have e0 : (nk == 0) = false := by rw [beq_eq_false_iff_ne]; omega
            have e1 : (nk == 1) = false := by rw [beq_eq_false_iff_ne]; omega
            go_wp2_with fail
            exact ⟨⟨k + 1, by go_num, by omega, HAL.out _, HT1.out⟩, by simp [intOf]; omega⟩
      · have hke : k = ns.length := by omega
        have HZ := Lib.hid (show q = true from HW2.out.2 (by rw [← List.take_length (l := ns), ← hke]; exact HTK.out))
        go_wp2_with fail
        go_ret
        exact ⟨ret_bool HZ.out.symm, HB2.out.trans (HBW.out.mono HB2.out.size)⟩
  · have HZ := Lib.hid (show q = false by
      cases q with
      | false => rfl
      | true => exact absurd ⟨(HWL.out.1 rfl).1, (HWL.out.1 rfl).2.1, (HWL.out.1 rfl).2.2.1⟩ hbad)
    have hcc : fr = false ∨ (fr = true ∧ (d == 0) = true) ∨ (fr = true ∧ (d == 0) = false ∧ 64 < d) := by
      cases fr with
      | false => exact .inl rfl
      | true =>
        by_cases h : d = 0
        · exact .inr (.inl ⟨rfl, by rw [beq_iff_eq]; exact h⟩)
        · exact .inr (.inr ⟨rfl, by rw [beq_eq_false_iff_ne]; exact h, by by_cases h6 : d ≤ 64; exact absurd ⟨rfl, h, h6⟩ hbad; omega⟩)
    clear hbad HWL
    rcases hcc with rfl | ⟨rfl, hcc⟩ | ⟨rfl, hcc, h64⟩
    all_goals
      go_wp2_with fail
      go_ret
      exact ⟨ret_bool HZ.out.symm, HB2.out⟩
end Go.Proofs.YtbmcfodhjibooaaDoor
