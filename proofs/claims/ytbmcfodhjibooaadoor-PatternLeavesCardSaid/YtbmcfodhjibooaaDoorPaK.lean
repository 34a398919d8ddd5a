/-
  The contracts of pattern's limits, write, Format.
-/
import Derived.Test.YtbmcfodhjibooaaDoorPaH
import Derived.Test.YtbmcfodhjibooaaDoorSb
namespace Saw
end Saw
namespace Go.Proofs.YtbmcfodhjibooaaDoor
open Go.RowKit Saw Go.Sort

set_option maxHeartbeats 400000 in
theorem limits_any (k : Int) (w : World) : Calls Tryd.prog 55 #[.int .i64 k] w fun e w' => e = .returned (.tuple #[.int .i64 (loP k), .int .i64 (hiP k)]) ∧ w' = w := by
  unfold loP hiP
  by_cases h0 : k = 0
  · have hb : (k == 0) = true := by rw [beq_iff_eq]; exact h0
    rw [if_pos (.inl h0), if_pos h0]
    clear h0
    go_enter Tryd.func55, Tryd.ntmps55
    go_wp2_with fail
    go_ret2
    exact ⟨rfl, rfl⟩
  · have hb : (k == 0) = false := by rw [beq_eq_false_iff_ne]; exact h0
    by_cases h1 : k = 1
    · have hb1 : (k == 1) = true := by rw [beq_iff_eq]; exact h1
      rw [if_pos (.inr h1), if_neg h0, if_pos h1]
      clear h0 h1
      go_enter Tryd.func55, Tryd.ntmps55
      go_wp2_with fail
      go_ret2
      exact ⟨rfl, rfl⟩
    · have hb1 : (k == 1) = false := by rw [beq_eq_false_iff_ne]; exact h1
      rw [if_neg (by omega), if_neg h0, if_neg h1]
      clear h0 h1
      go_enter Tryd.func55, Tryd.ntmps55
      go_wp2_with fail
      go_ret2
      exact ⟨rfl, rfl⟩

/-! write -/
def WritePo (base B : Nat) (ws : List (List UInt8)) (rest : List Nd) (w : World) (e : Ending) (w' : World) : Prop :=
  ∃ v' lv', e = .returned (.tuple #[v', lv']) ∧ OwnsStr w' base v' ws ∧ RdNd w' B lv' rest ∧ Below base w w' ∧ w.heap.size ≤ w'.heap.size
theorem rd_tail {w : World} {B : Nat} {b off n c : Nat} {x : Nd} {l : List Nd} (h : RdNd w B (.slice (some ⟨b, off, none⟩) n c) (x :: l)) : RdNd w B (.slice (if c = 1 then some ⟨b, off, none⟩ else some ⟨b, off + 2, none⟩) l.length (c - 1)) l := by
  obtain ⟨h1, h2, A, c', he, hc, h3⟩ := h
  injection he with e1 e2 e3
  subst e1 e2 e3
  rw [List.length_cons] at h2 hc
  obtain ⟨b', off', hA, hb, hcell⟩ := h3 (by rw [List.length_cons]; omega)
  injection hA with hA
  injection hA with hA1 hA2
  subst hA1 hA2
  have key : ∀ j u, (ndCells l)[j]? = some u → w.cell? ⟨b, off + 2 + j, none⟩ = some u := fun j u hu => by
    have := hcell (2 + j) u (by
      rw [ndCells, List.flatMap_cons, List.getElem?_append_right (by simp)]
      simp only [List.length_cons, List.length_nil]
      rw [show 2 + j - (0 + 1 + 1) = j by omega]
      exact hu)
    rw [Nat.add_assoc]
    exact this
  refine ⟨by rw [ndCells_length], by omega, _, _, rfl, by omega, fun hn => ?_⟩
  rw [if_neg (by omega)]
  exact ⟨b, off + 2, rfl, hb, key⟩
theorem own_str {w : World} {base g n cap : Nat} {l : List (List UInt8)} {m : List (List UInt8)} (h : w.ownsRow base 9 1 (.slice (some ⟨g, 0, none⟩) n cap) n (l.map (fun x => .string (str x)) ++ m.map (fun x => .string (str x)))) (hn : n = l.length + m.length) : OwnsStr w base (.slice (some ⟨g, 0, none⟩) n cap) (l ++ m) := by
  unfold OwnsStr
  rw [List.length_append, List.map_append, ← hn]
  exact h
theorem own_str2 {w : World} {base g n cap : Nat} {l : List (List UInt8)} {a b : List UInt8} {d : ByteArray} (h : w.ownsRow base 9 1 (.slice (some ⟨g, 0, none⟩) n cap) n (l.map (fun x => .string (str x)) ++ [.string (str a), .string d])) (hd : d = str b) (hn : n = l.length + 2) : OwnsStr w base (.slice (some ⟨g, 0, none⟩) n cap) (l ++ [a, b]) := by
  subst hd
  exact own_str (m := [a, b]) h hn
theorem nd_keep {w w' : World} {base g : Nat} {v : Value} {l : List (List UInt8)} {cs : Array Value} {fr : Nat × Nat} (hn : w.heap[g]? = some (.cells cs 64 fr)) (ho : OwnsStr w base v l) (hg : w.grownBy w' v.ownBlock) : w'.heap[g]? = some (.cells cs 64 fr) :=
  (hg.block g (Array.getElem?_eq_some_iff.1 hn).1 (fun e => by
    obtain ⟨_, cur, hc⟩ := own_at ho e.symm
    rw [hn] at hc
    injection hc with hc
    injection hc with _ h2 _
    exact absurd h2 (by decide))).trans hn
theorem str_below {w w' : World} {base base2 : Nat} {v : Value} {l : List (List UInt8)} (ho : OwnsStr w base v l) (hb : base2 ≤ base) (hw : base ≤ w.heap.size) (hg : w.grownBy w' v.ownBlock) : Below base2 w w' :=
  (Below.refl base2 w).grown hg (by omega) (fun k e => by have := (own_at ho e).1; omega)
theorem _root_.Go.Proofs.YtbmcfodhjibooaaDoor.OwnsStr.alloc' {w : World} {base : Nat} {v : Value} {l : List (List UInt8)} (ho : OwnsStr w base v l) (o : Obj) : OwnsStr (w.alloc o) base v l := World.ownsRow.alloc ho o
theorem str_kept {w w' : World} {base : Nat} {v : Value} {l : List (List UInt8)} (ho : OwnsStr w base v l) (hb : Below w.heap.size w w') : OwnsStr w' base v l := ho.kept (row := none) ⟨hb.os, hb.tape, hb.output, hb.size, fun k hk _ => hb.block k hk⟩ (by cases v.ownBlock <;> simp)

set_option maxRecDepth 100000 in
set_option maxHeartbeats 4000000 in
theorem write_any : ∀ (t : Tr) (rest : List Nd) (ws : List (List UInt8)) (v lv : Value) (base B : Nat) (w : World), t.ok = true → (∀ n ∈ t.nodes, inLim n = true) → OwnsStr w base v ws → RdNd w B lv (t.nodes ++ rest) → B ≤ base → base ≤ w.heap.size → ws.length + 4 * t.nodes.length ≤ 10000 → Pow w → 0 < base →
    Calls Tryd.prog 57 #[v, lv] w (WritePo base B (ws ++ t.words) rest w) := by
  intro t
  induction t with
  | leaf k p =>
    intro rest ws v lv base B w hok hlim hown hrd hB hbw hlen hpow hpg
    rw [Tr.ok, Bool.or_eq_true, decide_eq_true_eq, decide_eq_true_eq] at hok
    have hl : -600 ≤ p ∧ p ≤ 600 := inLim_bd (hlim ⟨k, p⟩ (by simp [Tr.nodes]))
    simp only [Tr.nodes, List.cons_append, List.nil_append] at hrd
    simp only [Tr.nodes, List.length_cons, List.length_nil] at hlen
    obtain ⟨A, c, rfl, hc, hml⟩ := hrd.form
    unfold maxLen at hml
    obtain ⟨bn, on, hA, hbB, d0, d1⟩ := RdNd.at_ hrd (i := 0) rfl
    subst hA
    simp only [Nat.zero_mul, Nat.add_zero] at d0 d1
    have HTL := Lib.hid (rd_tail hrd)
    have HO := Lib.hid hown
    have HPW := Lib.hid hpow
    have hbw2 : bn < w.heap.size := by omega
    obtain ⟨i0, hi0, hz0, hz1, hz2⟩ := info_parts info_str
    rw [List.length_cons] at hc hml
    obtain ⟨tl, htl⟩ : ∃ tl : List Nd, rest = tl := ⟨_, rfl⟩
    rw [htl] at HTL hc hml
    clear hrd hown hpow hlim
    rcases hok with rfl | rfl
    · have HLW := Lib.hid (show ws.length ≤ 100000 by omega)
      obtain ⟨L2, hL2⟩ : ∃ L, ws ++ [[123]] = L := ⟨_, rfl⟩
      have hnL2 : L2.length = ws.length + 1 := by rw [← hL2]; simp
      obtain ⟨L3, hL3⟩ : ∃ L, L2 ++ [[119, 97, 115, 116, 101]] = L := ⟨_, rfl⟩
      have hnL3 : L3.length = L2.length + 1 := by rw [← hL3]; simp
      obtain ⟨L4, hL4⟩ : ∃ L, L3 ++ [[125]] = L := ⟨_, rfl⟩
      have hnL4 : L4.length = L3.length + 1 := by rw [← hL4]; simp
      have HLL2 := Lib.hid (show L2.length ≤ 100000 by omega)
      have HEL2 := Lib.hid hL2
      have HLL3 := Lib.hid (show L3.length ≤ 100000 by omega)
      have HEL3 := Lib.hid hL3
      have HLL4 := Lib.hid (show L4.length ≤ 100000 by omega)
      have HEL4 := Lib.hid hL4
      clear hL2 hnL2 hL3 hnL3 hL4 hnL4
      go_enter Tryd.func57, Tryd.ntmps57
      rw [htl]
      go_wp2_with fail
      go_region
      obtain ⟨lt, hlt⟩ : ∃ lt, Value.slice (if c = 1 then some ⟨bn, on, none⟩ else some ⟨bn, on + 2, none⟩) tl.length (c - 1) = lt := ⟨_, rfl⟩
      rw [hlt] at HTL
      obtain ⟨W1, hW1⟩ : ∃ W1, (w.alloc (.cells #[.int .i64 0, .int .i64 p] 64)).drew = W1 := ⟨_, rfl⟩
      have hb1 : Below w.heap.size w W1 := by rw [← hW1]; exact (bel_alloc (Below.refl _ _)).drew
      have hs1 := hb1.size
      have HN1 := Lib.hid (show W1.heap[w.heap.size]? = some (.cells #[.int .i64 0, .int .i64 p] 64 (0, 0)) by rw [← hW1]; exact heap_alloc_last w _)
      have HO1 := Lib.hid (str_kept HO.out hb1)
      have HB1 := Lib.hid (hb1.mono hbw)
      obtain ⟨y0, y1⟩ := cells2 HN1.out
      simp only [hlt, hW1]
      clear hb1 hlt
      go_wp2_with (first
        | (at_builtin; refine append_str W1 (by rfl) (.tmp 12) (.tmp 13) (by rfl) base v ws (by rfl) HO1.out HLW.out (by omega) [123] _ (by rfl) rfl ?_; intro v2 w2 hown2 hg2; rw [HEL2.out] at hown2; have HO2 := Lib.hid hown2; have HB2 := Lib.hid (HB1.out.trans (str_below HO1.out (Nat.le_refl _) (by omega) (hg2))); have HN2 := Lib.hid (nd_keep HN1.out HO1.out hg2); (have z2a := (cells2 HN2.out).1); (have z2b := (cells2 HN2.out).2); have hs2 := Nat.le_trans hs1 hg2.size; have HG2 := Lib.hid hg2; clear hown2 hg2)
        | (at_builtin; refine append_str w2 (by rfl) (.tmp 19) (.tmp 20) (by rfl) base v2 L2 (by rfl) HO2.out HLL2.out (by omega) [119, 97, 115, 116, 101] _ (by rfl) rfl ?_; intro v3 w3 hown3 hg3; rw [HEL3.out] at hown3; have HO3 := Lib.hid hown3; have HB3 := Lib.hid (HB2.out.trans (str_below HO2.out (Nat.le_refl _) (by omega) (hg3))); have HN3 := Lib.hid (nd_keep HN2.out HO2.out hg3); (have z3a := (cells2 HN3.out).1); (have z3b := (cells2 HN3.out).2); have hs3 := Nat.le_trans hs2 hg3.size; have HG3 := Lib.hid hg3; clear hown3 hg3)
        | (go_at_call 48; refine (isRip_any _ _).mono ?_; rintro e w9 ⟨he, hw9⟩; subst he; rw [hw9]; clear hw9)
        | (at_builtin; refine append_str w3 (by rfl) (.tmp 61) (.tmp 62) (by rfl) base v3 L3 (by rfl) HO3.out HLL3.out (by omega) [125] _ (by rfl) rfl ?_; intro v4 w4 hown4 hg4; rw [HEL4.out] at hown4; have HO4 := Lib.hid hown4; have HB4 := Lib.hid (HB3.out.trans (str_below HO3.out (Nat.le_refl _) (by omega) (hg4))); have hs4 := Nat.le_trans hs3 hg4.size; have HG4 := Lib.hid hg4; clear hown4 hg4))
      refine bodyPost_ret (v := .tuple #[v4, lt]) (by simp [results, Tryd.results57, go_sem]) rfl ⟨v4, lt, rfl, ?_, ?_, HB4.out, by omega⟩
      · have h := HO4.out
        rw [← HEL4.out, ← HEL3.out, ← HEL2.out] at h
        simpa [Tr.words, ndWords, wasteW] using h
      · exact HTL.out.below (HB4.out.mono hB)
    · have HLW := Lib.hid (show ws.length ≤ 100000 by omega)
      obtain ⟨L2, hL2⟩ : ∃ L, ws ++ [[123]] = L := ⟨_, rfl⟩
      have hnL2 : L2.length = ws.length + 1 := by rw [← hL2]; simp
      obtain ⟨L4, hL4⟩ : ∃ L, L2 ++ [[98, 111, 97, 114, 100], Lib.itoa p] = L := ⟨_, rfl⟩
      have hnL4 : L4.length = L2.length + 2 := by rw [← hL4]; simp
      obtain ⟨L5, hL5⟩ : ∃ L, L4 ++ [[125]] = L := ⟨_, rfl⟩
      have hnL5 : L5.length = L4.length + 1 := by rw [← hL5]; simp
      have HLL2 := Lib.hid (show L2.length ≤ 100000 by omega)
      have HEL2 := Lib.hid hL2
      have HLL4 := Lib.hid (show L4.length ≤ 100000 by omega)
      have HEL4 := Lib.hid hL4
      have HLL5 := Lib.hid (show L5.length ≤ 100000 by omega)
      have HEL5 := Lib.hid hL5
      have HT1 := Lib.hid (show L2.length + 2 ≤ maxLen by simp only [maxLen]; omega)
      have HT2 := Lib.hid (show (L2.length + 2) * 16 ≤ 140737488355328 by omega)
      obtain ⟨d, hd⟩ : ∃ d, str (Lib.itoa p) = d := ⟨_, rfl⟩
      have HD := Lib.hid hd
      have HM := Lib.hid (show ∀ u ∈ ([.string (str [98, 111, 97, 114, 100]), .string d] : List Value), u.oneCell' = true by
        intro u hu
        simp only [List.mem_cons, List.not_mem_nil, or_false] at hu
        rcases hu with rfl | rfl <;> rfl)
      clear hd
      clear hL2 hnL2 hL4 hnL4 hL5 hnL5
      go_enter Tryd.func57, Tryd.ntmps57
      rw [htl]
      go_wp2_with fail
      go_region
      obtain ⟨lt, hlt⟩ : ∃ lt, Value.slice (if c = 1 then some ⟨bn, on, none⟩ else some ⟨bn, on + 2, none⟩) tl.length (c - 1) = lt := ⟨_, rfl⟩
      rw [hlt] at HTL
      obtain ⟨W1, hW1⟩ : ∃ W1, (w.alloc (.cells #[.int .i64 1, .int .i64 p] 64)).drew = W1 := ⟨_, rfl⟩
      have hb1 : Below w.heap.size w W1 := by rw [← hW1]; exact (bel_alloc (Below.refl _ _)).drew
      have hs1 := hb1.size
      have HN1 := Lib.hid (show W1.heap[w.heap.size]? = some (.cells #[.int .i64 1, .int .i64 p] 64 (0, 0)) by rw [← hW1]; exact heap_alloc_last w _)
      have HO1 := Lib.hid (str_kept HO.out hb1)
      have HB1 := Lib.hid (hb1.mono hbw)
      obtain ⟨y0, y1⟩ := cells2 HN1.out
      simp only [hlt, hW1]
      clear hb1 hlt
      go_wp2_with (first
        | (at_builtin; refine append_str W1 (by rfl) (.tmp 12) (.tmp 13) (by rfl) base v ws (by rfl) HO1.out HLW.out (by omega) [123] _ (by rfl) rfl ?_; intro v2 w2 hown2 hg2; rw [HEL2.out] at hown2; have HO2 := Lib.hid hown2; have HB2 := Lib.hid (HB1.out.trans (str_below HO1.out (Nat.le_refl _) (by omega) (hg2))); have HN2 := Lib.hid (nd_keep HN1.out HO1.out hg2); (have z2a := (cells2 HN2.out).1); (have z2b := (cells2 HN2.out).2); have hs2 := Nat.le_trans hs1 hg2.size; have HG2 := Lib.hid hg2; clear hown2 hg2)
        | (go_at_call 56; refine (itoa_any p _ (by omega) (by omega) (HPW.out.below HB2.out hpg)).mono ?_; rintro e w3 ⟨he, hb3⟩; rw [HD.out] at he; subst he; have HO3 := Lib.hid (str_kept HO2.out hb3); have HB3 := Lib.hid (HB2.out.trans (hb3.mono (by omega))); have HN3 := Lib.hid ((hb3.block _ (Array.getElem?_eq_some_iff.1 HN2.out).1).trans HN2.out); (have z3a := (cells2 HN3.out).1); (have z3b := (cells2 HN3.out).2); have hs3 := Nat.le_trans hs2 hb3.size; clear hb3)
        | (at_builtin; refine wpList_append_lies _ (by rfl) (.tmp 24) (.tmp 28) 97 (by rfl) base 9 i0 _ 1 16 Tryd.underlying97 hi0 hz0 hz1 hz2 rfl (by decide) v2 L2.length (L2.map fun x => .string (str x)) (by rfl) (World.ownsRow.alloc HO3.out _) ⟨w3.heap.size, 0, none⟩ 2 2 [.string (str [98, 111, 97, 114, 100]), .string d] (by rfl) (by rfl) (World.news_of_block (cs := #[.string (str [98, 111, 97, 114, 100]), .string d]) (t := 9) (fr := (0, 0)) (heap_alloc_last w3 _)) HM.out (by decide) HT1.out HT2.out (by rw [World.size_alloc]; omega) _ rfl ?_; intro g4 cap4 w4 hown4 hg4 hat4 hlt4; have HO4 := Lib.hid (show OwnsStr w4 base (.slice (some ⟨g4, 0, none⟩) (L2.length + 2) cap4) L4 from HEL4.out ▸ own_str2 hown4 HD.out.symm rfl); have HB4 := Lib.hid ((HB3.out.alloc (by omega) _).trans (str_below (HO3.out.alloc' _) (Nat.le_refl _) (by rw [World.size_alloc]; omega) hg4)); have HN4 := Lib.hid (nd_keep (hpA HN3.out _) (HO3.out.alloc' _) hg4); (have z4a := (cells2 HN4.out).1); (have z4b := (cells2 HN4.out).2); (have hs4 : w.heap.size ≤ w4.heap.size := by have := hg4.size; rw [World.size_alloc] at this; omega); clear hown4 hg4 hat4 hlt4)
        | (go_at_call 48; refine (isRip_any _ _).mono ?_; rintro e w9 ⟨he, hw9⟩; subst he; rw [hw9]; clear hw9)
        | (at_builtin; refine append_str w4 (by rfl) (.tmp 61) (.tmp 62) (by rfl) base (.slice (some ⟨g4, 0, none⟩) (L2.length + 2) cap4) L4 (by rfl) HO4.out HLL4.out (by omega) [125] _ (by rfl) rfl ?_; intro v5 w5 hown5 hg5; rw [HEL5.out] at hown5; have HO5 := Lib.hid hown5; have HB5 := Lib.hid (HB4.out.trans (str_below HO4.out (Nat.le_refl _) (by omega) (hg5))); have hs5 := Nat.le_trans hs4 hg5.size; have HG5 := Lib.hid hg5; clear hown5 hg5))
      refine bodyPost_ret (v := .tuple #[v5, lt]) (by simp [results, Tryd.results57, go_sem]) rfl ⟨v5, lt, rfl, ?_, ?_, HB5.out, by omega⟩
      · have h := HO5.out
        rw [← HEL5.out, ← HEL4.out, ← HEL2.out] at h
        simpa [Tr.words, ndWords, boardW] using h
      · exact HTL.out.below (HB5.out.mono hB)
  | rip k p a b iha ihb =>
    intro rest ws v lv base B w hok hlim hown hrd hB hbw hlen hpow hpg
    rw [Tr.ok, Bool.and_eq_true, Bool.and_eq_true, Bool.or_eq_true, decide_eq_true_eq, decide_eq_true_eq] at hok
    obtain ⟨hok, hoka, hokb⟩ := hok
    have hl : -600 ≤ p ∧ p ≤ 600 := inLim_bd (hlim ⟨k, p⟩ (by simp [Tr.nodes]))
    have hla : ∀ n ∈ a.nodes, inLim n = true := fun n hn => hlim n (by simp [Tr.nodes, hn])
    have hlb : ∀ n ∈ b.nodes, inLim n = true := fun n hn => hlim n (by simp [Tr.nodes, hn])
    simp only [Tr.nodes, List.cons_append, List.append_assoc] at hrd
    simp only [Tr.nodes, List.length_cons, List.length_append] at hlen
    have IHA := Lib.hid iha
    have IHB := Lib.hid ihb
    have HLA := Lib.hid hla
    have HLB := Lib.hid hlb
    clear iha ihb hla hlb
    obtain ⟨A, c, rfl, hc, hml⟩ := hrd.form
    unfold maxLen at hml
    obtain ⟨bn, on, hA, hbB, d0, d1⟩ := RdNd.at_ hrd (i := 0) rfl
    subst hA
    simp only [Nat.zero_mul, Nat.add_zero] at d0 d1
    have HTL := Lib.hid (rd_tail hrd)
    have HO := Lib.hid hown
    have HPW := Lib.hid hpow
    have hbw2 : bn < w.heap.size := by omega
    obtain ⟨i0, hi0, hz0, hz1, hz2⟩ := info_parts info_str
    rw [List.length_cons] at hc hml
    obtain ⟨tl, htl⟩ : ∃ tl : List Nd, (a.nodes ++ (b.nodes ++ rest)) = tl := ⟨_, rfl⟩
    rw [htl] at HTL hc hml
    clear hrd hown hpow hlim
    rcases hok with rfl | rfl
    · have HLW := Lib.hid (show ws.length ≤ 100000 by omega)
      have hwa : a.words.length ≤ 4 * a.nodes.length := (words_len a HLA.out).1
      have hwb : b.words.length ≤ 4 * b.nodes.length := (words_len b HLB.out).1
      obtain ⟨L2, hL2⟩ : ∃ L, ws ++ [[123]] = L := ⟨_, rfl⟩
      have hnL2 : L2.length = ws.length + 1 := by rw [← hL2]; simp
      obtain ⟨L4, hL4⟩ : ∃ L, L2 ++ [[120], Lib.itoa p] = L := ⟨_, rfl⟩
      have hnL4 : L4.length = L2.length + 2 := by rw [← hL4]; simp
      obtain ⟨L5, hL5⟩ : ∃ L, L4 ++ a.words = L := ⟨_, rfl⟩
      have hnL5 : L5.length = L4.length + a.words.length := by rw [← hL5]; simp
      obtain ⟨L6, hL6⟩ : ∃ L, L5 ++ b.words = L := ⟨_, rfl⟩
      have hnL6 : L6.length = L5.length + b.words.length := by rw [← hL6]; simp
      obtain ⟨L7, hL7⟩ : ∃ L, L6 ++ [[125]] = L := ⟨_, rfl⟩
      have hnL7 : L7.length = L6.length + 1 := by rw [← hL7]; simp
      have HLL2 := Lib.hid (show L2.length ≤ 100000 by omega)
      have HEL2 := Lib.hid hL2
      have HLL4 := Lib.hid (show L4.length ≤ 100000 by omega)
      have HEL4 := Lib.hid hL4
      have HLL5 := Lib.hid (show L5.length ≤ 100000 by omega)
      have HEL5 := Lib.hid hL5
      have HLL6 := Lib.hid (show L6.length ≤ 100000 by omega)
      have HEL6 := Lib.hid hL6
      have HLL7 := Lib.hid (show L7.length ≤ 100000 by omega)
      have HEL7 := Lib.hid hL7
      have HT1 := Lib.hid (show L2.length + 2 ≤ maxLen by simp only [maxLen]; omega)
      have HT2 := Lib.hid (show (L2.length + 2) * 16 ≤ 140737488355328 by omega)
      obtain ⟨d, hd⟩ : ∃ d, str (Lib.itoa p) = d := ⟨_, rfl⟩
      have HD := Lib.hid hd
      have HM := Lib.hid (show ∀ u ∈ ([.string (str [120]), .string d] : List Value), u.oneCell' = true by
        intro u hu
        simp only [List.mem_cons, List.not_mem_nil, or_false] at hu
        rcases hu with rfl | rfl <;> rfl)
      clear hd
      have HK4 := Lib.hid (show L4.length + 4 * a.nodes.length ≤ 10000 by omega)
      have HK5 := Lib.hid (show L5.length + 4 * b.nodes.length ≤ 10000 by omega)
      clear hwa hwb
      clear hL2 hnL2 hL4 hnL4 hL5 hnL5 hL6 hnL6 hL7 hnL7
      go_enter Tryd.func57, Tryd.ntmps57
      rw [htl]
      go_wp2_with fail
      go_region
      obtain ⟨lt, hlt⟩ : ∃ lt, Value.slice (if c = 1 then some ⟨bn, on, none⟩ else some ⟨bn, on + 2, none⟩) tl.length (c - 1) = lt := ⟨_, rfl⟩
      rw [hlt] at HTL
      obtain ⟨W1, hW1⟩ : ∃ W1, (w.alloc (.cells #[.int .i64 2, .int .i64 p] 64)).drew = W1 := ⟨_, rfl⟩
      have hb1 : Below w.heap.size w W1 := by rw [← hW1]; exact (bel_alloc (Below.refl _ _)).drew
      have hs1 := hb1.size
      have HN1 := Lib.hid (show W1.heap[w.heap.size]? = some (.cells #[.int .i64 2, .int .i64 p] 64 (0, 0)) by rw [← hW1]; exact heap_alloc_last w _)
      have HO1 := Lib.hid (str_kept HO.out hb1)
      have HB1 := Lib.hid (hb1.mono hbw)
      obtain ⟨y0, y1⟩ := cells2 HN1.out
      simp only [hlt, hW1]
      clear hb1 hlt
      go_wp2_with (first
        | (at_builtin; refine append_str W1 (by rfl) (.tmp 12) (.tmp 13) (by rfl) base v ws (by rfl) HO1.out HLW.out (by omega) [123] _ (by rfl) rfl ?_; intro v2 w2 hown2 hg2; rw [HEL2.out] at hown2; have HO2 := Lib.hid hown2; have HB2 := Lib.hid (HB1.out.trans (str_below HO1.out (Nat.le_refl _) (by omega) (hg2))); have HN2 := Lib.hid (nd_keep HN1.out HO1.out hg2); (have z2a := (cells2 HN2.out).1); (have z2b := (cells2 HN2.out).2); have hs2 := Nat.le_trans hs1 hg2.size; have HG2 := Lib.hid hg2; clear hown2 hg2)
        | (go_at_call 56; refine (itoa_any p _ (by omega) (by omega) (HPW.out.below HB2.out hpg)).mono ?_; rintro e w3 ⟨he, hb3⟩; rw [HD.out] at he; subst he; have HO3 := Lib.hid (str_kept HO2.out hb3); have HB3 := Lib.hid (HB2.out.trans (hb3.mono (by omega))); have HN3 := Lib.hid ((hb3.block _ (Array.getElem?_eq_some_iff.1 HN2.out).1).trans HN2.out); (have z3a := (cells2 HN3.out).1); (have z3b := (cells2 HN3.out).2); have hs3 := Nat.le_trans hs2 hb3.size; clear hb3)
        | (at_builtin; refine wpList_append_lies _ (by rfl) (.tmp 32) (.tmp 36) 97 (by rfl) base 9 i0 _ 1 16 Tryd.underlying97 hi0 hz0 hz1 hz2 rfl (by decide) v2 L2.length (L2.map fun x => .string (str x)) (by rfl) (World.ownsRow.alloc HO3.out _) ⟨w3.heap.size, 0, none⟩ 2 2 [.string (str [120]), .string d] (by rfl) (by rfl) (World.news_of_block (cs := #[.string (str [120]), .string d]) (t := 9) (fr := (0, 0)) (heap_alloc_last w3 _)) HM.out (by decide) HT1.out HT2.out (by rw [World.size_alloc]; omega) _ rfl ?_; intro g4 cap4 w4 hown4 hg4 hat4 hlt4; have HO4 := Lib.hid (show OwnsStr w4 base (.slice (some ⟨g4, 0, none⟩) (L2.length + 2) cap4) L4 from HEL4.out ▸ own_str2 hown4 HD.out.symm rfl); have HB4 := Lib.hid ((HB3.out.alloc (by omega) _).trans (str_below (HO3.out.alloc' _) (Nat.le_refl _) (by rw [World.size_alloc]; omega) hg4)); have HN4 := Lib.hid (nd_keep (hpA HN3.out _) (HO3.out.alloc' _) hg4); (have z4a := (cells2 HN4.out).1); (have z4b := (cells2 HN4.out).2); (have hs4 : w.heap.size ≤ w4.heap.size := by have := hg4.size; rw [World.size_alloc] at this; omega); clear hown4 hg4 hat4 hlt4)
        | (go_at_call 48; refine (isRip_any _ _).mono ?_; rintro e w9 ⟨he, hw9⟩; subst he; rw [hw9]; clear hw9))
      refine (IHA.out (b.nodes ++ rest) L4 (.slice (some ⟨g4, 0, none⟩) (L2.length + 2) cap4) lt base B w4 hoka HLA.out HO4.out (by rw [← htl] at HTL; exact HTL.out.below (HB4.out.mono hB)) hB (by omega) HK4.out (HPW.out.below HB4.out hpg) hpg).mono ?_
      rintro e w5 ⟨v5, lt5, he, ho5, hr5, hb5, hs5⟩
      subst he
      rw [HEL5.out] at ho5
      have HO5 := Lib.hid ho5
      have HR5 := Lib.hid hr5
      have HB5 := Lib.hid (HB4.out.trans hb5)
      clear ho5 hr5 hb5
      go_wp2_with fail
      refine (IHB.out rest L5 v5 lt5 base B w5 hokb HLB.out HO5.out HR5.out hB (by omega) HK5.out (HPW.out.below HB5.out hpg) hpg).mono ?_
      rintro e w6 ⟨v6, lt6, he, ho6, hr6, hb6, hs6⟩
      subst he
      rw [HEL6.out] at ho6
      have HO6 := Lib.hid ho6
      have HR6 := Lib.hid hr6
      have HB6 := Lib.hid (HB5.out.trans hb6)
      clear ho6 hr6 hb6
      have hs6 : w.heap.size ≤ w6.heap.size := by omega
      go_wp2_with (at_builtin; refine append_str w6 (by rfl) (.tmp 61) (.tmp 62) (by rfl) base v6 L6 (by rfl) HO6.out HLL6.out (by omega) [125] _ (by rfl) rfl ?_; intro v7 w7 hown7 hg7; rw [HEL7.out] at hown7; have HO7 := Lib.hid hown7; have HB7 := Lib.hid (HB6.out.trans (str_below HO6.out (Nat.le_refl _) (by omega) (hg7))); have hs7 := Nat.le_trans hs6 hg7.size; have HG7 := Lib.hid hg7; clear hown7 hg7)
      refine bodyPost_ret (v := .tuple #[v7, lt6]) (by simp [results, Tryd.results57, go_sem]) rfl ⟨v7, lt6, rfl, ?_, ?_, HB7.out, by omega⟩
      · have h := HO7.out
        rw [← HEL7.out, ← HEL6.out, ← HEL5.out, ← HEL4.out, ← HEL2.out] at h
        simpa [Tr.words, ndWords] using h
      · exact HR6.out.below ((str_below HO6.out (Nat.le_refl _) (by omega) HG7.out).mono hB)
    · have HLW := Lib.hid (show ws.length ≤ 100000 by omega)
      have hwa : a.words.length ≤ 4 * a.nodes.length := (words_len a HLA.out).1
      have hwb : b.words.length ≤ 4 * b.nodes.length := (words_len b HLB.out).1
      obtain ⟨L2, hL2⟩ : ∃ L, ws ++ [[123]] = L := ⟨_, rfl⟩
      have hnL2 : L2.length = ws.length + 1 := by rw [← hL2]; simp
      obtain ⟨L4, hL4⟩ : ∃ L, L2 ++ [[121], Lib.itoa p] = L := ⟨_, rfl⟩
      have hnL4 : L4.length = L2.length + 2 := by rw [← hL4]; simp
      obtain ⟨L5, hL5⟩ : ∃ L, L4 ++ a.words = L := ⟨_, rfl⟩
      have hnL5 : L5.length = L4.length + a.words.length := by rw [← hL5]; simp
      obtain ⟨L6, hL6⟩ : ∃ L, L5 ++ b.words = L := ⟨_, rfl⟩
      have hnL6 : L6.length = L5.length + b.words.length := by rw [← hL6]; simp
      obtain ⟨L7, hL7⟩ : ∃ L, L6 ++ [[125]] = L := ⟨_, rfl⟩
      have hnL7 : L7.length = L6.length + 1 := by rw [← hL7]; simp
      have HLL2 := Lib.hid (show L2.length ≤ 100000 by omega)
      have HEL2 := Lib.hid hL2
      have HLL4 := Lib.hid (show L4.length ≤ 100000 by omega)
      have HEL4 := Lib.hid hL4
      have HLL5 := Lib.hid (show L5.length ≤ 100000 by omega)
      have HEL5 := Lib.hid hL5
      have HLL6 := Lib.hid (show L6.length ≤ 100000 by omega)
      have HEL6 := Lib.hid hL6
      have HLL7 := Lib.hid (show L7.length ≤ 100000 by omega)
      have HEL7 := Lib.hid hL7
      have HT1 := Lib.hid (show L2.length + 2 ≤ maxLen by simp only [maxLen]; omega)
      have HT2 := Lib.hid (show (L2.length + 2) * 16 ≤ 140737488355328 by omega)
      obtain ⟨d, hd⟩ : ∃ d, str (Lib.itoa p) = d := ⟨_, rfl⟩
      have HD := Lib.hid hd
      have HM := Lib.hid (show ∀ u ∈ ([.string (str [121]), .string d] : List Value), u.oneCell' = true by
        intro u hu
        simp only [List.mem_cons, List.not_mem_nil, or_false] at hu
        rcases hu with rfl | rfl <;> rfl)
      clear hd
      have HK4 := Lib.hid (show L4.length + 4 * a.nodes.length ≤ 10000 by omega)
      have HK5 := Lib.hid (show L5.length + 4 * b.nodes.length ≤ 10000 by omega)
      clear hwa hwb
      clear hL2 hnL2 hL4 hnL4 hL5 hnL5 hL6 hnL6 hL7 hnL7
      go_enter Tryd.func57, Tryd.ntmps57
      rw [htl]
      go_wp2_with fail
      go_region
      obtain ⟨lt, hlt⟩ : ∃ lt, Value.slice (if c = 1 then some ⟨bn, on, none⟩ else some ⟨bn, on + 2, none⟩) tl.length (c - 1) = lt := ⟨_, rfl⟩
      rw [hlt] at HTL
      obtain ⟨W1, hW1⟩ : ∃ W1, (w.alloc (.cells #[.int .i64 3, .int .i64 p] 64)).drew = W1 := ⟨_, rfl⟩
      have hb1 : Below w.heap.size w W1 := by rw [← hW1]; exact (bel_alloc (Below.refl _ _)).drew
      have hs1 := hb1.size
      have HN1 := Lib.hid (show W1.heap[w.heap.size]? = some (.cells #[.int .i64 3, .int .i64 p] 64 (0, 0)) by rw [← hW1]; exact heap_alloc_last w _)
      have HO1 := Lib.hid (str_kept HO.out hb1)
      have HB1 := Lib.hid (hb1.mono hbw)
      obtain ⟨y0, y1⟩ := cells2 HN1.out
      simp only [hlt, hW1]
      clear hb1 hlt
      go_wp2_with (first
        | (at_builtin; refine append_str W1 (by rfl) (.tmp 12) (.tmp 13) (by rfl) base v ws (by rfl) HO1.out HLW.out (by omega) [123] _ (by rfl) rfl ?_; intro v2 w2 hown2 hg2; rw [HEL2.out] at hown2; have HO2 := Lib.hid hown2; have HB2 := Lib.hid (HB1.out.trans (str_below HO1.out (Nat.le_refl _) (by omega) (hg2))); have HN2 := Lib.hid (nd_keep HN1.out HO1.out hg2); (have z2a := (cells2 HN2.out).1); (have z2b := (cells2 HN2.out).2); have hs2 := Nat.le_trans hs1 hg2.size; have HG2 := Lib.hid hg2; clear hown2 hg2)
        | (go_at_call 56; refine (itoa_any p _ (by omega) (by omega) (HPW.out.below HB2.out hpg)).mono ?_; rintro e w3 ⟨he, hb3⟩; rw [HD.out] at he; subst he; have HO3 := Lib.hid (str_kept HO2.out hb3); have HB3 := Lib.hid (HB2.out.trans (hb3.mono (by omega))); have HN3 := Lib.hid ((hb3.block _ (Array.getElem?_eq_some_iff.1 HN2.out).1).trans HN2.out); (have z3a := (cells2 HN3.out).1); (have z3b := (cells2 HN3.out).2); have hs3 := Nat.le_trans hs2 hb3.size; clear hb3)
        | (at_builtin; refine wpList_append_lies _ (by rfl) (.tmp 40) (.tmp 44) 97 (by rfl) base 9 i0 _ 1 16 Tryd.underlying97 hi0 hz0 hz1 hz2 rfl (by decide) v2 L2.length (L2.map fun x => .string (str x)) (by rfl) (World.ownsRow.alloc HO3.out _) ⟨w3.heap.size, 0, none⟩ 2 2 [.string (str [121]), .string d] (by rfl) (by rfl) (World.news_of_block (cs := #[.string (str [121]), .string d]) (t := 9) (fr := (0, 0)) (heap_alloc_last w3 _)) HM.out (by decide) HT1.out HT2.out (by rw [World.size_alloc]; omega) _ rfl ?_; intro g4 cap4 w4 hown4 hg4 hat4 hlt4; have HO4 := Lib.hid (show OwnsStr w4 base (.slice (some ⟨g4, 0, none⟩) (L2.length + 2) cap4) L4 from HEL4.out ▸ own_str2 hown4 HD.out.symm rfl); have HB4 := Lib.hid ((HB3.out.alloc (by omega) _).trans (str_below (HO3.out.alloc' _) (Nat.le_refl _) (by rw [World.size_alloc]; omega) hg4)); have HN4 := Lib.hid (nd_keep (hpA HN3.out _) (HO3.out.alloc' _) hg4); (have z4a := (cells2 HN4.out).1); (have z4b := (cells2 HN4.out).2); (have hs4 : w.heap.size ≤ w4.heap.size := by have := hg4.size; rw [World.size_alloc] at this; omega); clear hown4 hg4 hat4 hlt4)
        | (go_at_call 48; refine (isRip_any _ _).mono ?_; rintro e w9 ⟨he, hw9⟩; subst he; rw [hw9]; clear hw9))
      refine (IHA.out (b.nodes ++ rest) L4 (.slice (some ⟨g4, 0, none⟩) (L2.length + 2) cap4) lt base B w4 hoka HLA.out HO4.out (by rw [← htl] at HTL; exact HTL.out.below (HB4.out.mono hB)) hB (by omega) HK4.out (HPW.out.below HB4.out hpg) hpg).mono ?_
      rintro e w5 ⟨v5, lt5, he, ho5, hr5, hb5, hs5⟩
      subst he
      rw [HEL5.out] at ho5
      have HO5 := Lib.hid ho5
      have HR5 := Lib.hid hr5
      have HB5 := Lib.hid (HB4.out.trans hb5)
      clear ho5 hr5 hb5
      go_wp2_with fail
      refine (IHB.out rest L5 v5 lt5 base B w5 hokb HLB.out HO5.out HR5.out hB (by omega) HK5.out (HPW.out.below HB5.out hpg) hpg).mono ?_
      rintro e w6 ⟨v6, lt6, he, ho6, hr6, hb6, hs6⟩
      subst he
      rw [HEL6.out] at ho6
      have HO6 := Lib.hid ho6
      have HR6 := Lib.hid hr6
      have HB6 := Lib.hid (HB5.out.trans hb6)
      clear ho6 hr6 hb6
      have hs6 : w.heap.size ≤ w6.heap.size := by omega
      go_wp2_with (at_builtin; refine append_str w6 (by rfl) (.tmp 61) (.tmp 62) (by rfl) base v6 L6 (by rfl) HO6.out HLL6.out (by omega) [125] _ (by rfl) rfl ?_; intro v7 w7 hown7 hg7; rw [HEL7.out] at hown7; have HO7 := Lib.hid hown7; have HB7 := Lib.hid (HB6.out.trans (str_below HO6.out (Nat.le_refl _) (by omega) (hg7))); have hs7 := Nat.le_trans hs6 hg7.size; have HG7 := Lib.hid hg7; clear hown7 hg7)
      refine bodyPost_ret (v := .tuple #[v7, lt6]) (by simp [results, Tryd.results57, go_sem]) rfl ⟨v7, lt6, rfl, ?_, ?_, HB7.out, by omega⟩
      · have h := HO7.out
        rw [← HEL7.out, ← HEL6.out, ← HEL5.out, ← HEL4.out, ← HEL2.out] at h
        simpa [Tr.words, ndWords] using h
      · exact HR6.out.below ((str_below HO6.out (Nat.le_refl _) (by omega) HG7.out).mono hB)
end Go.Proofs.YtbmcfodhjibooaaDoor
