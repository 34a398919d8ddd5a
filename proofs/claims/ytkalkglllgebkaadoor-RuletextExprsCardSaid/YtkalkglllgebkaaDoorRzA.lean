/-
  The reference's Named and Depth (sawmillref44).
-/
import Derived.Test.YtkalkglllgebkaaDoorRyC
import Derived.Test.YtkalkglllgebkaaDoorWRefB
namespace Go.Proofs.YtkalkglllgebkaaDoor
open Go.RowKit Saw Go.Sort

set_option maxHeartbeats 1000000 in
theorem rNamed_any (s : ByteArray) (w : World) (hs : s.size ≤ 9223372036854775807) : Calls Tryd.prog 87 #[.string s] w fun e w' => e = .returned (.bool (namedP (bts s))) ∧ w = w' := by
  have HN := Lib.hid (refIsName_any s w hs)
  obtain ⟨q, hq⟩ : ∃ q, isNameP (bts s) = q := ⟨_, rfl⟩
  rw [hq] at HN
  have hp : namedP (bts s) = (q && !(s.toList == [97, 110, 100] || s.toList == [111, 114] || s.toList == [110, 111, 116] || s.toList == [119, 104, 101, 110] || s.toList == [103, 114, 97, 100, 101])) := by rw [namedP, hq, ← toList_bts]; rfl
  rw [hp]
  clear hp hq
  have aux : ∀ P : Prop, (q = true → P) → (q = false → P) → P := fun P h1 h2 => by cases q with | true => exact h1 rfl | false => exact h2 rfl
  cases q with
  | false =>
    go_enter Tryd.func87, Tryd.ntmps87
    go_wp2_with fail
    refine HN.out.mono ?_
    rintro e w1 ⟨he, rfl⟩
    subst he
    go_wp2_with fail
    go_ret
    exact ⟨rfl, rfl⟩
  | true =>
    clear aux
    go_enter Tryd.func87, Tryd.ntmps87
    go_wp2_with fail
    refine HN.out.mono ?_
    rintro e w1 ⟨he, rfl⟩
    subst he
    clear HN
    by_cases a1 : s.toList = [97, 110, 100]
    · go_wp2_with fail
      go_ret
      exact ⟨ret_bool (by simp [a1]), rfl⟩
    by_cases a2 : s.toList = [111, 114]
    · go_wp2_with fail
      go_ret
      exact ⟨ret_bool (by simp [a2]), rfl⟩
    by_cases a3 : s.toList = [110, 111, 116]
    · go_wp2_with fail
      go_ret
      exact ⟨ret_bool (by simp [a3]), rfl⟩
    by_cases a4 : s.toList = [119, 104, 101, 110]
    · go_wp2_with fail
      go_ret
      exact ⟨ret_bool (by simp [a4]), rfl⟩
    by_cases a5 : s.toList = [103, 114, 97, 100, 101]
    · go_wp2_with fail
      go_ret
      exact ⟨ret_bool (by simp [a5]), rfl⟩
    go_wp2_with fail
    go_ret
    exact ⟨ret_bool (by simp [a1, a2, a3, a4, a5]), rfl⟩

set_option maxRecDepth 100000 in
set_option maxHeartbeats 1000000 in
theorem rDepth_any : ∀ (N : Nat) (x : Ex), x.size ≤ N → x.depth ≤ 1000000000 → ∀ (A : Option Addr) (c : Nat) (w : World), RdFo w (Iv 0 w.heap.size) (.slice A x.kids.toList.length c) x.kids →
    Calls Tryd.prog 58 #[.agg #[.int .i64 x.op, .int .i64 x.n, .string (str x.name), .slice A x.kids.toList.length c]] w (IntB x.depth w) := by
  intro N
  induction N with
  | zero => intro x h; simp only [Ex.size] at h; omega
  | succ N ih =>
    intro x hN hD A c w hrd
    obtain ⟨_, _, _, hc, hml⟩ := hrd.form
    clear hc
    unfold maxLen at hml
    have HRD := Lib.hid hrd
    have HI := Lib.hid ih
    clear ih hrd
    have HMX := Lib.hid (fun i => maxDep_le (f := x.kids) i)
    have hdk : x.kids.depth + 1 = x.depth := rfl
    have hB := bel_alloc (ob := .cells #[.int .i64 x.op, .int .i64 x.n, .string (str x.name), .slice A x.kids.toList.length c] 24) (Below.refl w.heap.size w)
    have hR1 := heap_alloc_last w (.cells #[.int .i64 x.op, .int .i64 x.n, .string (str x.name), .slice A x.kids.toList.length c] 24)
    go_enter Tryd.func58, Tryd.ntmps58
    go_wp2_with fail
    obtain ⟨n0, hn0⟩ : ∃ n, w.heap.size = n := ⟨_, rfl⟩
    obtain ⟨W0, hW0⟩ : ∃ W, w.alloc (.cells #[.int .i64 x.op, .int .i64 x.n, .string (str x.name), .slice A x.kids.toList.length c] 24) = W := ⟨_, rfl⟩
    rw [hW0] at hB hR1 ⊢
    have HRA0 := Lib.hid (HRD.out.next hB)
    have HB := Lib.hid hB
    rw [hn0] at hR1 ⊢
    have HR1 := Lib.hid hR1
    clear hB hR1 hW0 hn0 HRD
    go_loopw [3, 4] (fun nv i wr => ∃ k : Nat, k ≤ x.kids.toList.length ∧ i = .int .i64 k ∧ nv = .int .i64 (maxDep (x.kids.toList.take k) : Nat) ∧ Below W0.heap.size W0 wr) (fun _ i _ => x.kids.toList.length - (intOf i).toNat)
    case atStart => exact ⟨0, by omega, rfl, rfl, Below.refl _ _⟩
    case round =>
      obtain ⟨k, hk, rfl, rfl, hb⟩ := hrel
      have HB0 := Lib.hid hb
      have hsz := hb.size
      have r1 : wr.cell? ⟨n0, 3, none⟩ = some (.slice A x.kids.toList.length c) := (hb.cell (p := ⟨n0, 3, none⟩) (Array.getElem?_eq_some_iff.1 HR1.out).1).trans (cell_of_box HR1.out rfl)
      clear hb
      have hmk := HMX.out k
      by_cases hlt : k < x.kids.toList.length
      · have hx : x.kids.toList[k]? = some x.kids.toList[k] := List.getElem?_eq_getElem hlt
        obtain ⟨y, hye⟩ : ∃ y, x.kids.toList[k] = y := ⟨_, rfl⟩
        rw [hye] at hx
        have hym := List.mem_of_getElem? hx
        have HSZ := Lib.hid (kids_size hym)
        have hyd := kids_depth hym
        have HTK := Lib.hid (maxDep_take _ _ _ hx)
        obtain ⟨b, off, A1, c1, rfl, hS, hyr, hg⟩ := (HRA0.out.next HB0.out).at_ hx
        have HG := Lib.hid hg
        have HY := Lib.hid hyr
        clear hx hye hym hyr hg
        go_wp2_with (first
          | ((with_reducible refine ex_load b (off + k * 4) y (.slice A1 y.kids.toList.length c1) ?hx HG.out ?_); (case hx => rfl)))
        refine (HI.out y (by have := HSZ.out; omega) (by omega) A1 c1 _ HY.out).mono ?_
        rintro e w2 ⟨he, hb2⟩
        subst he
        have HB2 := Lib.hid (bel_call HB0.out hb2)
        clear hb2 r1
        go_wp2_with fail
        refine ⟨⟨k + 1, by omega, by go_num, ?_, HB2.out⟩, by simp [intOf]; omega⟩
        rw [HTK.out]
        congr 1
        omega
      · have hke : k = x.kids.toList.length := by omega
        have HE := Lib.hid (show maxDep (x.kids.toList.take k) = x.kids.depth by rw [hke, List.take_length, maxDep_all])
        clear hke
        go_wp2_with fail
        go_ret
        exact ⟨ret_int (by rw [HE.out, ← hdk]; rfl), bel_call HB.out HB0.out⟩

end Go.Proofs.YtkalkglllgebkaaDoor
