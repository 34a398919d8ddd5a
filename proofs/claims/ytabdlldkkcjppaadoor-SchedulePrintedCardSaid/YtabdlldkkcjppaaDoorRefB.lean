/-
  The contracts of the reference's functions Marks and mark.
-/
import Derived.Test.YtabdlldkkcjppaaDoorRefA
namespace Go.Proofs.YtabdlldkkcjppaaDoor
open Go.RowKit Saw

/-- The slice value v reads as a list of strings. -/
def RdStr (w : World) (v : Value) (l : List (List UInt8)) : Prop := Rd w w.heap.size 1 v l.length (l.map fun x => .string (str x))

theorem RdStr.form {w : World} {v : Value} {l : List (List UInt8)} (h : RdStr w v l) : ∃ A c, v = .slice A l.length c ∧ l.length ≤ c ∧ l.length ≤ maxLen := by
  obtain ⟨_, h2, A, c, rfl, hc, _⟩ := h
  exact ⟨A, c, rfl, hc, h2⟩
theorem RdStr.at_ {w : World} {A : Option Addr} {n c : Nat} {l : List (List UInt8)} (h : RdStr w (.slice A n c) l) {i : Nat} {x : List UInt8} (hx : l[i]? = some x) :
    ∃ b off, A = some ⟨b, off, none⟩ ∧ b < w.heap.size ∧ w.cell? ⟨b, off + i, none⟩ = some (.string (str x)) := by
  obtain ⟨_, _, A', c', he, _, h3⟩ := h
  injection he with h1 h2 h4
  subst h1
  have hi : i < l.length := (List.getElem?_eq_some_iff.1 hx).1
  obtain ⟨b, off, rfl, hb, hcell⟩ := h3 (by omega)
  exact ⟨b, off, rfl, hb, hcell _ _ (by rw [List.getElem?_map, hx]; rfl)⟩

set_option maxHeartbeats 400000 in
theorem refMarks_any (w : World) : Calls Tryd.prog 78 #[] w fun e w' => ∃ A c, e = .returned (.slice A 19 c) ∧ RdStr w' (.slice A 19 c) marks ∧ Below w.heap.size w w' := by
  go_enter Tryd.func78, Tryd.ntmps78
  go_wp2
  go_ret
  refine ⟨some ⟨w.heap.size, 0, none⟩, 19, rfl, ?_, (Below.refl _ _).alloc (Nat.le_refl _) _⟩
  refine ⟨rfl, by simp [marks, maxLen], _, _, rfl, Nat.le_refl _, fun _ => ⟨w.heap.size, 0, rfl, by simp, fun j u hu => ?_⟩⟩
  rw [World.cell?_alloc_at _ _ _ _ rfl, ← hu, Nat.zero_add, List.getElem?_toArray]
  rfl

theorem marks_len : marks.length = 19 := rfl

theorem mark_step {l x : List UInt8} {k : Nat} (h : (marks.take k).find? (fun m => m == l.take m.length) = none) (hx : marks[k]? = some x) (hne : ¬ x = l.take x.length) :
    (marks.take (k + 1)).find? (fun m => m == l.take m.length) = none := by
  rw [List.take_add_one, hx, List.find?_append, h]
  simpa using hne
theorem mark_hit {l x : List UInt8} {k : Nat} (h : (marks.take k).find? (fun m => m == l.take m.length) = none) (hx : marks[k]? = some x) (he : x = l.take x.length) : markP l = x := by
  have h1 : marks = marks.take k ++ (x :: marks.drop (k + 1)) := by
    have hk : k < marks.length := (List.getElem?_eq_some_iff.1 hx).1
    conv => lhs; rw [← List.take_append_drop k marks, List.drop_eq_getElem_cons hk]
    rw [List.getElem?_eq_getElem hk] at hx
    rw [Option.some.inj hx]
  rw [markP, h1, List.find?_append, h, List.find?_cons_of_pos (by simpa using he)]
  rfl

set_option maxHeartbeats 400000 in
theorem refMark_any (s : ByteArray) (w : World) (_hs : s.size ≤ 9223372036854775807) :
    Calls Tryd.prog 65 #[.string s] w fun e w' => e = .returned (.string (str (markP (bts s)))) ∧ Below w.heap.size w w' := by
  go_enter Tryd.func65, Tryd.ntmps65
  go_wp2_with fail
  refine (refMarks_any _).mono ?_
  rintro e w1 ⟨A, c, rfl, hrd, hb⟩
  obtain ⟨b, off, rfl, _, _⟩ := hrd.at_ (i := 0) (x := [60, 61]) rfl
  have HRD := Lib.hid hrd
  clear hrd
  go_wp2_with fail
  go_loopw [4] (fun i wr => ∃ k m : Nat, k ≤ 19 ∧ i = .int .i64 k ∧ wr = w1.drewN m ∧ (marks.take k).find? (fun m => m == (bts s).take m.length) = none) (fun i _ => 19 - (intOf i).toNat)
  case atStart => exact ⟨0, 0, by omega, rfl, rfl, by simp⟩
  case round =>
    obtain ⟨k, m, hk, rfl, rfl, hr⟩ := hrel
    have HR := Lib.hid hr
    clear hr
    by_cases hlt : k < 19
    · obtain ⟨x, hx⟩ : ∃ x, marks[k]? = some x := ⟨_, List.getElem?_eq_getElem (by rw [marks_len]; exact hlt)⟩
      obtain ⟨b', off', he, _, hcell⟩ := HRD.out.at_ hx
      injection he with he
      injection he with h1 h2
      subst h1 h2
      have HX := Lib.hid hx
      have hsz : (str x).size = x.length := size_str x
      have hxl : x.length ≤ 2 := by
        have : ∀ x ∈ marks, x.length ≤ 2 := by decide
        exact this x (List.mem_of_getElem? hx)
      obtain ⟨t, ht⟩ : ∃ t, str x = t := ⟨_, rfl⟩
      rw [ht] at hcell hsz
      have HT := Lib.hid ht
      have hts : t.size ≤ 2 := by omega
      have HSZ := Lib.hid hsz
      clear hx ht hsz
      by_cases hin : t.size ≤ s.size
      · obtain ⟨q, hq⟩ : ∃ q, ((s.extract 0 t.size).toList == t.toList) = q := ⟨_, rfl⟩
        have hq' : (x == (bts s).take x.length) = q := by
          rw [← hq, toList_bts, toList_bts, ← HT.out, bts_str, extract_str, bts_str, size_str, List.drop_zero, Nat.sub_zero]
          rw [Bool.eq_iff_iff, beq_iff_eq, beq_iff_eq]; exact eq_comm
        have HQ := Lib.hid hq'
        clear hq'
        have hge : decide ((t.size : Int) ≤ (s.size : Int)) = true := by simp; omega
        cases q
        · go_wp2_with fail
          go_quiet (fail)
          rw [World.drewN_drewN]
          go_wp2_with fail
          exact ⟨⟨k + 1, m + nq, by omega, by go_num, rfl, mark_step HR.out HX.out (by simpa using HQ.out)⟩, by simp [intOf]; omega⟩
        · go_wp2_with fail
          go_quiet (fail)
          rw [World.drewN_drewN]
          go_wp2_with fail
          go_ret
          refine ⟨?_, below_drewN hb (m + nq)⟩
          rw [mark_hit HR.out HX.out (by simpa using HQ.out), HT.out]
          rfl
      · have hge : decide (t.size ≤ s.size) = false := by simp; omega
        have hge' : decide ((t.size : Int) ≤ (s.size : Int)) = false := by simp; omega
        go_wp2_with fail
        go_quiet (fail)
        rw [World.drewN_drewN]
        go_wp2_with fail
        refine ⟨⟨k + 1, m + nq, by omega, by go_num, rfl, mark_step HR.out HX.out ?_⟩, by simp [intOf]; omega⟩
        intro he
        have h1 := congrArg List.length he
        rw [List.length_take] at h1
        have h2 := HSZ.out
        have h3 := size_bts s
        omega
    · go_wp2_with fail
      go_ret
      refine ⟨?_, hb.trans (below_drewN (Below.refl _ _) m)⟩
      have h := HR.out
      rw [List.take_of_length_le (by rw [marks_len]; omega)] at h
      rw [markP, h]
      rfl

end Go.Proofs.YtabdlldkkcjppaaDoor
