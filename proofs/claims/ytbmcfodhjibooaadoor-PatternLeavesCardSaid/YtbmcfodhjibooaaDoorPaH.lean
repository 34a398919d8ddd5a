/-
  The contract of pattern's Depth.
-/
import Derived.Test.YtbmcfodhjibooaaDoorPaG
import Derived.Deep.AppendLies
import Derived.LoopN
namespace Saw
theorem depthL_nil (st : List Int) (m : Int) : depthL [] st m = if 0 < st.length then 0 else m := by
  cases st with
  | nil => rfl
  | cons x r => rw [depthL, if_pos (by simp)]
end Saw
namespace Go.Proofs.YtbmcfodhjibooaaDoor
open Go.RowKit Saw Go.Sort

theorem row_pop {w : World} {B g cap size n : Nat} {e : TypeId} {xs ys : List Value} (h : w.ownsRow B e size (.slice (some ⟨g, 0, none⟩) (n + 1) cap) (n + 1) (xs ++ ys)) (hy : ys.length = size) :
    w.ownsRow B e size (.slice (some ⟨g, 0, none⟩) n cap) n xs ∧ (∀ j, j < size → w.cell? ⟨g, n * size + j, none⟩ = ys[j]?) ∧ n + 1 ≤ cap ∧ cap ≤ maxLen ∧ g < w.heap.size ∧ B ≤ g := by
  obtain ⟨h1, h2⟩ := h
  rcases h2 with ⟨h3, _⟩ | ⟨g', cap', cur, h3, h4, h5, h6, h7, h8, h9⟩
  · cases h3
  injection h3 with e1 e2 e3
  injection e1 with e1
  injection e1 with e1
  subst e1 e3
  rw [List.length_append, hy, Nat.succ_mul] at h1
  have hx : xs.length = n * size := by omega
  refine ⟨⟨hx, .inr ⟨g, cap, cur, rfl, h4, h5, by omega, h7, h8, ?_⟩⟩, fun j hj => ?_, h6, h7, (Array.getElem?_eq_some_iff.1 h5).1, h4⟩
  · have := congrArg (List.take (n * size)) h9
    rw [List.take_take, Nat.succ_mul, Nat.min_eq_left (by omega), List.take_left' hx] at this
    exact this
  · rw [cell_of_row w g _ cur _ (0, 0) h5]
    have := congrArg (fun l => l[n * size + j]?) h9
    rw [List.getElem?_take_of_lt (by rw [Nat.succ_mul]; omega), List.getElem?_append_right (by omega), hx, Nat.add_sub_cancel_left] at this
    rw [← this]
    simp
theorem int_infoE : (Tryd.prog.info? 3).map (fun i => (i.zero, i.size, i.bytes)) = some (some (.int .i64 0), 1, 8) := by kernel_rfl

set_option maxRecDepth 100000 in
set_option maxHeartbeats 2000000 in
theorem depth_any (r : Rc) (ns : List Nd) (nv : Value) (w : World) (hns : RdNd w w.heap.size nv ns) :
    Calls Tryd.prog 21 #[.agg #[.int .i64 r.xa, .int .i64 r.xb, .int .i64 r.ya, .int .i64 r.yb, nv]] w (IntB (depthP ns) w) := by
  obtain ⟨A, c, rfl, hc, hml⟩ := hns.form
  unfold maxLen at hml
  obtain ⟨q, hq⟩ : ∃ q, depthP ns = q := ⟨_, rfl⟩
  rw [hq]
  unfold depthP at hq
  have HQ := Lib.hid hq
  have HNS := Lib.hid hns
  clear hq hns
  have HB := Lib.hid (bel_alloc (ob := .cells #[.int .i64 r.xa, .int .i64 r.xb, .int .i64 r.ya, .int .i64 r.yb, .slice A ns.length c] 28) (Below.refl w.heap.size w))
  by_cases l127 : 127 < ns.length
  · have hz : q = 0 := by rw [← HQ.out, if_pos l127]
    subst hz
    clear HQ
    go_enter Tryd.func21, Tryd.ntmps21
    go_wp2_with fail
    go_ret
    exact ⟨rfl, HB.out⟩
  · have HQ1 := Lib.hid (show depthL ns [1] 0 = q by rw [← HQ.out, if_neg l127])
    clear HQ
    obtain ⟨i0, hi0, hz0, hz1, hz2⟩ := info_parts int_infoE
    go_enter Tryd.func21, Tryd.ntmps21
    go_wp2_with fail
    have hown := ownsRow_new (w := w.alloc (.cells #[.int .i64 r.xa, .int .i64 r.xb, .int .i64 r.ya, .int .i64 r.yb, .slice A ns.length c] 28)) (base := w.heap.size) (len := 1) (size := 1) (e := 3) (cs := [.int .i64 1]) (by simp only [World.size_alloc]; omega) rfl (by decide)
    have HOWN := Lib.hid hown
    clear hown
    go_loopw [3, 4, 16] (fun ov mv iv wr => ∃ (k : Nat) (st : List Int) (m : Int) (g cap : Nat), ov = .slice (some ⟨g, 0, none⟩) st.length cap ∧ mv = .int .i64 m ∧ iv = .int .i64 k ∧ k ≤ ns.length ∧ st.length ≤ k + 1 ∧ (∀ x ∈ st, 0 ≤ x ∧ x ≤ k + 1) ∧
        depthL (ns.drop k) st m = q ∧ wr.ownsRow w.heap.size 3 1 (.slice (some ⟨g, 0, none⟩) st.length cap) st.length (ints st.reverse) ∧ Below w.heap.size w wr)
      (fun _ _ i _ => ns.length - (intOf i).toNat)
    case atStart =>
      refine ⟨0, [1], 0, w.heap.size + 1, 1, rfl, rfl, rfl, by omega, by simp, ?_, HQ1.out, ?_, HB.out.alloc HB.out.size _⟩
      · intro x hx
        simp only [List.mem_singleton] at hx
        subst hx
        omega
      · have h := HOWN.out
        rw [World.size_alloc] at h
        exact h
    case round =>
      obtain ⟨k, st, m, g, cap, rfl, rfl, rfl, hk, hst, hlv, hqk, hown, hb⟩ := hrel
      have HQK := Lib.hid hqk
      have HLV := Lib.hid hlv
      have HO := Lib.hid hown
      have HB1 := Lib.hid hb
      have hsz := hb.size
      clear hqk hlv hown hb
      by_cases hlt : k < ns.length
      · have hn : ns[k]? = some ns[k] := List.getElem?_eq_getElem hlt
        obtain ⟨n, hne⟩ : ∃ n, ns[k] = n := ⟨_, rfl⟩
        rw [hne] at hn
        obtain ⟨bn, on, hA, hbn, d0, d1⟩ := RdNd.at_ (HNS.out.below HB1.out) hn
        subst hA
        have HDR := Lib.hid (show ns.drop k = n :: ns.drop (k + 1) by rw [List.drop_eq_getElem_cons hlt, hne])
        clear hn hne
        cases st with
        | nil =>
          have hz : q = 0 := by
            have h := HQK.out
            rw [HDR.out, depthL] at h
            exact h.symm
          subst hz
          clear HQK HO
          go_wp2_with fail
          all_goals go_ret
          all_goals exact ⟨rfl, HB1.out.alloc hsz _⟩
        | cons x st =>
          have HQ2 := Lib.hid (show (if n.kind < 0 ∨ 3 < n.kind then 0 else depthL (ns.drop (k + 1)) (if ripP n.kind then (x + 1) :: (x + 1) :: st else st) (max m x)) = q by
            have h := HQK.out
            rw [HDR.out, depthL] at h
            exact h)
          clear HQK
          have hown := HO.out
          rw [List.reverse_cons, ints, List.map_append, List.length_cons] at hown
          obtain ⟨hpop, htop, hcp1, hcp2, hgl, hgB⟩ := row_pop hown rfl
          have t0 := htop 0 (by omega)
          rw [Nat.mul_one, Nat.add_zero] at t0
          have t0 : wr.cell? ⟨g, st.length, none⟩ = some (.int .i64 x) := t0
          have HPOP := Lib.hid (show wr.ownsRow w.heap.size 3 1 (.slice (some ⟨g, 0, none⟩) st.length cap) st.length (ints st.reverse) from hpop)
          obtain ⟨hx0, hx1⟩ := HLV.out x (List.mem_cons_self ..)
          rw [List.length_cons] at hst
          unfold maxLen at hcp2
          clear hown hpop htop HO
          by_cases hk0 : n.kind < 0
          · have hz : q = 0 := by rw [← HQ2.out, if_pos (.inl hk0)]
            subst hz
            clear HQ2
            go_wp2_with fail
            all_goals go_ret
            all_goals exact ⟨rfl, HB1.out.alloc hsz _⟩
          · by_cases hk3 : 3 < n.kind
            · have hz : q = 0 := by rw [← HQ2.out, if_pos (.inr hk3)]
              subst hz
              clear HQ2
              go_wp2_with fail
              all_goals go_ret
              all_goals exact ⟨rfl, HB1.out.alloc hsz _⟩
            · obtain ⟨m2, hm2⟩ : ∃ m2, max m x = m2 := ⟨_, rfl⟩
              have HQ3 := Lib.hid (show depthL (ns.drop (k + 1)) (if ripP n.kind then (x + 1) :: (x + 1) :: st else st) m2 = q by
                have h := HQ2.out
                rw [if_neg (by omega), hm2] at h
                exact h)
              have hmm : (x ≤ m ∧ m = m2) ∨ (m < x ∧ x = m2) := by omega
              clear HQ2 hm2
              cases hrp : ripP n.kind with
              | false =>
                rw [hrp] at HQ3
                rcases hmm with ⟨hmx, rfl⟩ | ⟨hmx, rfl⟩
                all_goals
                  go_wp2_with (go_at_call 48; refine (isRip_any _ _).mono ?_; rintro e w1 ⟨he, rfl⟩; rw [hrp] at he; subst he)
                  refine ⟨⟨k + 1, st, _, g, cap, rfl, rfl, by simp, by omega, by omega, fun y hy => ?_, HQ3.out, World.ownsRow.alloc HPOP.out _, HB1.out.alloc hsz _⟩, by simp [intOf]; omega⟩
                  obtain ⟨y0, y1⟩ := HLV.out y (List.mem_cons_of_mem _ hy)
                  exact ⟨y0, by omega⟩
              | true =>
                rw [hrp] at HQ3
                obtain ⟨W1, hW1⟩ : ∃ W1, wr.alloc (.cells #[.int .i64 n.kind, .int .i64 n.pos] 64) = W1 := ⟨_, rfl⟩
                have hs1 : W1.heap.size = wr.heap.size + 1 := by rw [← hW1, World.size_alloc]
                obtain ⟨y0, y1⟩ := cells2 (show W1.heap[wr.heap.size]? = some (.cells #[.int .i64 n.kind, .int .i64 n.pos] 64 (0, 0)) by rw [← hW1]; exact heap_alloc_last wr _)
                have t1 : W1.cell? ⟨g, st.length, none⟩ = some (.int .i64 x) := by rw [← hW1]; exact ((Below.refl wr.heap.size wr).alloc (Nat.le_refl _) _ |>.cell (p := ⟨g, st.length, none⟩) hgl).trans t0
                have HPOP1 := Lib.hid (show W1.ownsRow w.heap.size 3 1 (.slice (some ⟨g, 0, none⟩) st.length cap) st.length (ints st.reverse) by rw [← hW1]; exact World.ownsRow.alloc HPOP.out _)
                have HBW1 := Lib.hid (show Below w.heap.size w W1 by rw [← hW1]; exact HB1.out.alloc hsz _)
                have HN1 := Lib.hid (show (W1.alloc (.cells #[.int .i64 (x + 1), .int .i64 (x + 1)] 3)).heap[wr.heap.size + 1]? = some (.cells #[.int .i64 (x + 1), .int .i64 (x + 1)] 3 (0, 0)) from hs1 ▸ heap_alloc_last W1 _)
                have HM2 := Lib.hid (show ∀ u ∈ ([.int .i64 (x + 1), .int .i64 (x + 1)] : List Value), u.oneCell' = true by
                  intro u hu
                  simp only [List.mem_cons, List.not_mem_nil, or_false] at hu
                  rcases hu with rfl | rfl <;> rfl)
                rcases hmm with ⟨hmx, rfl⟩ | ⟨hmx, rfl⟩
                all_goals
                  go_wp2_with (first
                    | (go_at_call 48; refine (isRip_any _ _).mono ?_; rintro e w1 ⟨he, rfl⟩; rw [hrp] at he; subst he)
                    | (at_builtin; refine wpList_append_lies _ (by rfl) (.tmp 50) (.tmp 55) 72 (by rfl) w.heap.size 3 i0 _ 1 8 Tryd.underlying72 hi0 hz0 hz1 hz2 rfl (by omega) (.slice (some ⟨g, 0, none⟩) st.length cap) st.length (ints st.reverse) (by rfl) (World.ownsRow.alloc HPOP1.out _) ⟨wr.heap.size + 1, 0, none⟩ 2 2 [.int .i64 (x + 1), .int .i64 (x + 1)] (by rfl) (by rfl) (World.news_of_block (cs := #[.int .i64 (x + 1), .int .i64 (x + 1)]) (t := 3) (fr := (0, 0)) HN1.out) HM2.out (by decide) (by simp only [maxLen]; omega) (by omega) (by rw [World.size_alloc]; omega) _ rfl ?_; intro g7 cap7 w7 hown7 hgrow hat hlt7; have HO7 := Lib.hid hown7; have HG7 := Lib.hid hgrow; clear hown7 hgrow hat hlt7))
                  refine ⟨⟨k + 1, (x + 1) :: (x + 1) :: st, _, g7, cap7, by simp only [List.length_cons], rfl, by simp, by omega, by simp only [List.length_cons]; omega, fun y hy => ?_, HQ3.out, ?_, (HBW1.out.alloc (by omega) _).grown HG7.out (by rw [World.size_alloc]; omega) (fun j e => by have e2 : some g = some j := e; injection e2 with e2; omega)⟩, by simp [intOf]; omega⟩
                  · simp only [List.mem_cons] at hy
                    rcases hy with rfl | rfl | hy
                    · omega
                    · omega
                    · obtain ⟨y0, y1⟩ := HLV.out y (List.mem_cons_of_mem _ hy)
                      exact ⟨y0, by omega⟩
                  · have h := HO7.out
                    simp only [List.length_cons, List.reverse_cons, List.append_assoc, ints, List.map_append]
                    exact h
      · have hkn : k = ns.length := by omega
        have hz : q = if 0 < st.length then 0 else m := by
          have h := HQK.out
          rw [List.drop_eq_nil_of_le (by omega), depthL_nil] at h
          exact h.symm
        by_cases hs : 0 < st.length
        · rw [if_pos hs] at hz
          subst hz
          clear HQK
          go_wp2_with fail
          go_ret
          exact ⟨rfl, HB1.out⟩
        · rw [if_neg hs] at hz
          subst hz
          clear HQK
          go_wp2_with fail
          go_ret
          exact ⟨rfl, HB1.out⟩

end Go.Proofs.YtbmcfodhjibooaaDoor
