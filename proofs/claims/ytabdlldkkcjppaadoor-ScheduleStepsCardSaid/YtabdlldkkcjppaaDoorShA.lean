/-
  The law's functions small, few, valid (chapter 37).
  The contracts of sawmillref37's SameSchedule and Same, where both arguments are equal; Stage's ==.
  The law's function awake (chapter 37).
-/
import Derived.Test.YtabdlldkkcjppaaDoorScE
import Derived.Test.YtabdlldkkcjppaaDoorScH
import Derived.Test.YtabdlldkkcjppaaDoorScJ
import Derived.Test.YtabdlldkkcjppaaDoorLexF
import Derived.Test.YtabdlldkkcjppaaDoorQuiet
import Derived.BigQuiet
import Derived.Test.YtabdlldkkcjppaaDoorScA
namespace Saw
def smallOne (x : Sc) : Bool := decide (x.name.length ≤ 100) && decide (x.stages.length ≤ 40)
theorem smallOne_ok {x : Sc} (h : smallOne x = true) : x.name.length ≤ 100 ∧ x.stages.length ≤ 40 := by
  simpa [smallOne] using h
def fewP (l : List Sc) : Bool := decide (l.length ≤ 20) && l.all smallOne
theorem fewP_ok {l : List Sc} (h : fewP l = true) : l.length ≤ 20 ∧ ∀ x ∈ l, x.name.length ≤ 100 ∧ x.stages.length ≤ 40 := by
  simp only [fewP, Bool.and_eq_true, decide_eq_true_eq, List.all_eq_true] at h
  exact ⟨h.1, fun x hx => smallOne_ok (h.2 x hx)⟩
theorem fewP_hyp {l : List Sc} (h : fewP l = true) : (∀ x ∈ l, x.stages.length ≤ 1000000) ∧ ∀ x ∈ l, x.name.length ≤ 1000000 := by
  obtain ⟨_, h2⟩ := fewP_ok h
  exact ⟨fun x hx => by have := h2 x hx; omega, fun x hx => by have := h2 x hx; omega⟩
theorem all_dropS {l : List Sc} {k : Nat} {x : Sc} (h : l[k]? = some x) : (l.drop k).all smallOne = (smallOne x && (l.drop (k + 1)).all smallOne) := by
  obtain ⟨hk, hx⟩ := List.getElem?_eq_some_iff.1 h
  rw [List.drop_eq_getElem_cons hk, hx, List.all_cons]
end Saw
namespace Go.Proofs.YtabdlldkkcjppaaDoor
open Go.RowKit Saw

set_option maxRecDepth 100000 in
set_option maxHeartbeats 400000 in
theorem small_any (x : Sc) (A : Option Addr) (c : Nat) (w : World) (hn : x.name.length ≤ 9223372036854775807) (hs : x.stages.length ≤ 9223372036854775807) :
    Calls Tryd.prog 11 #[.agg #[.string (str x.name), .int .i64 x.ramp, .slice A x.stages.length c]] w (BoolB (smallOne x) w) := by
  have hsn : (str x.name).size = x.name.length := size_str _
  have hs2 : (str x.name).size ≤ 9223372036854775807 := by omega
  obtain ⟨r, hr⟩ : ∃ r, smallOne x = r := ⟨_, rfl⟩
  rw [hr]
  have HR := Lib.hid hr
  clear hr
  by_cases h1 : (str x.name).size ≤ 100
  · by_cases h2 : x.stages.length ≤ 40
    · have hre : r = true := by rw [← HR.out, smallOne, decide_eq_true (by omega), decide_eq_true h2]; rfl
      subst hre
      clear hsn
      go_enter Tryd.func11, Tryd.ntmps11
      go_wp2_with fail
      go_ret
      exact ⟨ret_bool (by simp; omega), (Below.refl _ _).alloc (Nat.le_refl _) _⟩
    · have hre : r = false := by rw [← HR.out, smallOne, decide_eq_false h2, Bool.and_false]
      subst hre
      clear hsn
      go_enter Tryd.func11, Tryd.ntmps11
      go_wp2_with fail
      go_ret
      exact ⟨ret_bool (by simp; omega), (Below.refl _ _).alloc (Nat.le_refl _) _⟩
  · have hre : r = false := by rw [← HR.out, smallOne, decide_eq_false (by omega), Bool.false_and]
    subst hre
    clear hsn
    go_enter Tryd.func11, Tryd.ntmps11
    go_wp2_with fail
    go_ret
    exact ⟨rfl, (Below.refl _ _).alloc (Nat.le_refl _) _⟩

set_option maxRecDepth 100000 in
set_option maxHeartbeats 1000000 in
theorem few_any (l : List Sc) (v : Value) (w : World) (hrd : RdSc w w.heap.size v l) (hnm : ∀ x ∈ l, x.name.length ≤ maxLen) :
    Calls Tryd.prog 12 #[v] w (BoolB (fewP l) w) := by
  obtain ⟨A, c, rfl, hc, hml⟩ := hrd.form
  obtain ⟨r, hr⟩ : ∃ r, fewP l = r := ⟨_, rfl⟩
  rw [hr]
  unfold maxLen at hml
  by_cases h20 : 20 < l.length
  · have hre : r = false := by rw [← hr, fewP, decide_eq_false (by omega), Bool.false_and]
    subst hre
    clear hr
    go_enter Tryd.func12, Tryd.ntmps12
    go_wp2_with fail
    go_ret
    exact ⟨rfl, Below.refl _ _⟩
  · rw [fewP, decide_eq_true (by omega), Bool.true_and] at hr
    have HR := Lib.hid hr
    have HRD := Lib.hid hrd
    have HNM := Lib.hid hnm
    clear hr hrd hnm
    go_enter Tryd.func12, Tryd.ntmps12
    go_wp2_with fail
    go_loopw [3] (fun i wr => ∃ k : Nat, k ≤ l.length ∧ i = .int .i64 k ∧ (l.drop k).all smallOne = r ∧ Below w.heap.size w wr) (fun i _ => l.length - (intOf i).toNat)
    case atStart => exact ⟨0, by omega, rfl, by rw [List.drop_zero]; exact HR.out, Below.refl _ _⟩
    case round =>
      obtain ⟨k, hk, rfl, hrk, hb⟩ := hrel
      have HB := Lib.hid hb
      have hsz := hb.size
      clear hb
      by_cases hlt : k < l.length
      · have hx : l[k]? = some l[k] := List.getElem?_eq_getElem hlt
        obtain ⟨x, hxe⟩ : ∃ x, l[k] = x := ⟨_, rfl⟩
        have HXN := Lib.hid (show x.name.length ≤ 9223372036854775807 from by have h9 := HNM.out x (by rw [← hxe]; exact List.getElem_mem hlt); unfold maxLen at h9; omega)
        rw [hxe] at hx
        rw [all_dropS hx] at hrk
        obtain ⟨b, off, A1, c1, rfl, hbl, hm1, _, _, q0, q1, q2⟩ := RdSc.at_ (HRD.out.below HB.out) hx
        unfold maxLen at hm1
        have HK := Lib.hid hrk
        clear hxe hx hrk
        go_wp2_with fail
        refine (small_any x A1 c1 _ HXN.out (by omega)).mono ?_
        rintro e w1 ⟨he, hb1⟩
        have HB1 := Lib.hid (HB.out.trans (hb1.mono hsz))
        obtain ⟨q, hq⟩ : ∃ q, smallOne x = q := ⟨_, rfl⟩
        rw [hq] at he HK
        subst he
        clear hb1 hq q0 q1 q2
        cases q with
        | true =>
          have HN := Lib.hid (show (l.drop (k + 1)).all smallOne = r from HK.out)
          go_wp2_with fail
          exact ⟨⟨k + 1, by omega, by go_num, HN.out, HB1.out⟩, by simp [intOf]; omega⟩
        | false =>
          have hre : r = false := HK.out.symm
          subst hre
          go_wp2_with fail
          go_ret
          exact ⟨rfl, HB1.out⟩
      · have hre : r = true := by rw [List.drop_eq_nil_of_le (by omega)] at hrk; exact hrk.symm
        subst hre
        clear hrk HR
        go_wp2_with fail
        go_ret
        exact ⟨rfl, HB.out⟩

theorem keepY {b o : Nat} {W1 W : World} {v : Value} (hc : W1.cell? ⟨b, o, none⟩ = some v) (hN : b < W1.heap.size) (h : Below W1.heap.size W1 W) : W.cell? ⟨b, o, none⟩ = some v ∧ Below W1.heap.size W1 W :=
  ⟨(h.cell (p := ⟨b, o, none⟩) hN).trans hc, h⟩

set_option maxRecDepth 100000 in
set_option maxHeartbeats 1000000 in
theorem validL_any (l : List Sc) (v : Value) (w : World) (hrd : RdSc w w.heap.size v l) (hle : ∀ x ∈ l, x.stages.length ≤ 1000000) (hnm : ∀ x ∈ l, x.name.length ≤ 1000000) :
    Calls Tryd.prog 28 #[v] w (BoolB (validP l) w) := by
  obtain ⟨A, c, rfl, hc, hml⟩ := hrd.form
  obtain ⟨r, hr⟩ : ∃ r, validP l = r := ⟨_, rfl⟩
  rw [hr]
  unfold maxLen at hml
  have HR := Lib.hid (show (decide (l.length ≤ 8) && validFrom l 0) = r from hr)
  have HRD := Lib.hid hrd
  have HNM := Lib.hid hnm
  have HLE := Lib.hid hle
  clear hr hrd hnm hle
  go_enter Tryd.func28, Tryd.ntmps28
  go_wp2_with fail
  go_loopw [3] (fun i wr => ∃ k : Nat, k ≤ l.length ∧ i = .int .i64 k ∧ (decide (l.length ≤ 8) && validFrom l k) = r ∧ Below w.heap.size w wr) (fun i _ => l.length - (intOf i).toNat)
  case atStart => exact ⟨0, by omega, rfl, HR.out, Below.refl _ _⟩
  case round =>
    obtain ⟨k, hk, rfl, hrk, hb⟩ := hrel
    have HB := Lib.hid hb
    have hsz := hb.size
    clear hb
    by_cases hlt : k < l.length
    · have hx : l[k]? = some l[k] := List.getElem?_eq_getElem hlt
      obtain ⟨x, hxe⟩ : ∃ x, l[k] = x := ⟨_, rfl⟩
      have HXN := Lib.hid (show x.name.length ≤ 1000000 from HNM.out x (by rw [← hxe]; exact List.getElem_mem hlt))
      rw [hxe] at hx
      rw [validFrom_at hx] at hrk
      obtain ⟨b, off, A1, c1, rfl, hbl, hm1, hm2, hst, p0, p1, p2⟩ := RdSc.at_ HRD.out hx
      have HTK := Lib.hid (RdSc.take HRD.out k hk)
      have HST := Lib.hid hst
      have HK := Lib.hid hrk
      have HPC := Lib.hid (And.intro p0 (And.intro p1 p2))
      have q0 := (HB.out.cell (p := ⟨b, off + k * 3, none⟩) hbl).trans p0
      obtain ⟨rr, hrr⟩ : ∃ rr, findSc (l.take k) x.name = rr := ⟨_, rfl⟩
      obtain ⟨q, hq⟩ : ∃ q, rr.isSome = q := ⟨_, rfl⟩
      have HF : Hid (∀ W, Below wr.heap.size wr W → Calls Tryd.prog 14 #[.slice (some ⟨b, off, none⟩) k c, .string (str x.name)] W fun e w' => ∃ y A2 n2 c2, e = .returned (.tuple #[.agg (scCells y (.slice A2 n2 c2)).toArray, .bool q]) ∧ Below W.heap.size W w') := by
        refine Lib.hid ?_
        intro W hW
        have hbw : Below w.heap.size w W := HB.out.trans (hW.mono hsz)
        refine (scFind_any (l.take k) _ x.name W ((HTK.out.below hbw).more hbw.size) (fun z hz => HLE.out z (List.mem_of_mem_take hz))).mono ?_
        rintro e w' ⟨y, A2, c2, _, he, _, hb'⟩
        rw [hrr, hq] at he
        exact ⟨y, A2, _, c2, he, hb'⟩
      have hst' : ∀ (W : World) (g : Nat) (y : Sc) (A2 : Option Addr) (n2 c2 : Nat), W.there g 0 3 → (storeCells ⟨g, 0, none⟩ (scCells y (.slice A2 n2 c2))).run Tryd.prog W = .ok () (W.setCells g 0 (scCells y (.slice A2 n2 c2))) := fun W g y A2 n2 c2 h => run_store_there W g _ 3 rfl (sc_mem y) h
      have htn := sc_there
      have hly := fun y A2 n2 c2 => scCells_len y (.slice A2 n2 c2)
      have hbr : b < wr.heap.size := by omega
      have HC1 := Lib.hid q0
      have HRR := Lib.hid hrr
      have HQ := Lib.hid hq
      have hk1 : (0 : Int) ≤ (k : Int) := by omega
      have hk2 : (k : Int) ≤ (c : Int) := by omega
      have hk3 : (k : Int) < (l.length : Int) := by omega
      clear hxe hx hrk hst p0 p1 p2 hrr hq q0
      go_wp2_with fail
      go_region_held3 (fun W => W.cell? ⟨b, off + k * 3, none⟩ = some (.string (str x.name)) ∧ Below wr.heap.size wr W)
        ((refine keepY HC1.out hbr ?_; with_reducible first | exact (Below.refl _ _).drew | exact (z_alloc (Below.refl _ _)).drew | exact z_alloc (And.right (by assumption)) | exact z_set (And.right (by assumption)) hw2 | exact z_set (And.right (by assumption)) (Nat.le_refl _) | exact z_call (And.right (by assumption)) hb2))
        (first | (go_at_call 14; refine (HF.out _ (And.right (by assumption))).mono ?_; rintro e w2 ⟨y, A2, n2, c2, rfl, hb2⟩; have hw2 := z_size (And.right (by assumption)) hb2; (try have ht2 := sc_thereB hb2)))
      all_goals
        refine z_forget (W1 := wr) (And.right (by assumption)) ?_
        clear hst' htn hly
        intro W3 hB3
        have hbw3 : Below w.heap.size w W3 := HB.out.trans (hB3.mono hsz)
        have HBW := Lib.hid hbw3
        have hsz3 := hbw3.size
        have r0 := (hbw3.cell (p := ⟨b, off + k * 3, none⟩) hbl).trans HPC.out.1
        have r1 := (hbw3.cell (p := ⟨b, off + k * 3 + 1, none⟩) hbl).trans HPC.out.2.1
        have r2 := (hbw3.cell (p := ⟨b, off + k * 3 + 2, none⟩) hbl).trans HPC.out.2.2
        clear hB3 hbw3
        cases q with
        | true =>
          have hr7 : r = false := by
            rw [← HK.out, HRR.out]
            have h9 := HQ.out
            cases rr with
            | none => cases h9
            | some z => simp
          subst hr7
          go_wp2_with fail
          go_ret
          exact ⟨rfl, HBW.out⟩
        | false =>
          have hrn : rr = none := by
            have h9 := HQ.out
            cases rr with
            | none => rfl
            | some z => cases h9
          subst hrn
          go_wp2_with fail
          refine (scCheck_any x A1 c1 _ ((HST.out.below HBW.out).more hsz3) HXN.out).mono ?_
          rintro e w4 ⟨he, hb4⟩
          obtain ⟨q5, hq5⟩ : ∃ q, checkSc x = q := ⟨_, rfl⟩
          rw [hq5] at he
          subst he
          have HB4 := Lib.hid (HBW.out.trans (hb4.mono hsz3))
          clear hb4 r0 r1 r2
          by_cases hq0 : q5 = 0
          · subst hq0
            have HN2 := Lib.hid (show (decide (l.length ≤ 8) && validFrom l (k + 1)) = r by have h8 := HK.out; rw [HRR.out, hq5] at h8; simpa using h8)
            clear hq5
            go_wp2_with fail
            exact ⟨⟨k + 1, by omega, by go_num, HN2.out, HB4.out⟩, by simp [intOf]; omega⟩
          · have hr0 : r = false := by rw [← HK.out, hq5, decide_eq_false hq0]; simp
            subst hr0
            have hqb : (q5 != 0) = true := by rw [bne_iff_ne]; exact hq0
            clear hq5 hq0
            go_wp2_with fail
            go_ret
            exact ⟨rfl, HB4.out⟩
    · rw [validFrom_end hlt, Bool.and_true] at hrk
      subst hrk
      clear HR
      go_wp2_with fail
      go_ret
      exact ⟨ret_bool (by rw [Bool.eq_iff_iff]; simp; omega), HB.out⟩

end Go.Proofs.YtabdlldkkcjppaaDoor

namespace Go.Proofs.YtabdlldkkcjppaaDoor
open Go.RowKit Saw Go.Sort

theorem fields_stg : Tryd.prog.underlying 52 = some (.struct (Tryd.prog.fieldsOf 52)) := by kernel_rfl
theorem stood_stg : Tryd.prog.stoodInHeld 52 = false := by kernel_rfl
theorem eqIn_stg (x : Stg) (W : World) : (Op.equalIn 10000 52 (.agg #[.int .i64 x.below, .int .i64 x.ticks, .int .i64 x.temp, .int .i64 x.dep]) (.agg #[.int .i64 x.below, .int .i64 x.ticks, .int .i64 x.temp, .int .i64 x.dep])).run Tryd.prog W = .ok true W := by
  have u3 := Tryd.underlying3
  have a3 := Tryd.isAgg3
  have z3 := Tryd.sizeOf3
  rw [show (10000 : Nat) = 9999 + 1 from rfl, run_equalIn_agg W 9999 52 _ _ fields_stg stood_stg]
  simp only [Program.fieldsOf, Tryd.underlying52]
  go_simp
theorem neq_stg (x : Stg) (W : World) : (binOp .neq 52 (.agg #[.int .i64 x.below, .int .i64 x.ticks, .int .i64 x.temp, .int .i64 x.dep]) (.agg #[.int .i64 x.below, .int .i64 x.ticks, .int .i64 x.temp, .int .i64 x.dep])).run Tryd.prog W = .ok (.bool false) W := by
  rw [run_neq_struct, eqIn_stg]
  rfl
def TrueB (w : World) (e : Ending) (w' : World) : Prop := e = .returned (.bool true) ∧ Below w.heap.size w w'

set_option maxRecDepth 100000 in
set_option maxHeartbeats 1000000 in
theorem sameSc_any (x : Sc) (A B : Option Addr) (c d : Nat) (w : World) (h1 : RdSt w w.heap.size (.slice A x.stages.length c) x.stages) (h2 : RdSt w w.heap.size (.slice B x.stages.length d) x.stages) :
    Calls Tryd.prog 18 #[.agg #[.string (str x.name), .int .i64 x.ramp, .slice A x.stages.length c], .agg #[.string (str x.name), .int .i64 x.ramp, .slice B x.stages.length d]] w (TrueB w) := by
  obtain ⟨_, _, _, _, m1⟩ := h1.form
  unfold maxLen at m1
  obtain ⟨W0, hW0⟩ : ∃ W0, (w.alloc (.cells #[.string (str x.name), .int .i64 x.ramp, .slice A x.stages.length c] 24)).alloc (.cells #[.string (str x.name), .int .i64 x.ramp, .slice B x.stages.length d] 24) = W0 := ⟨_, rfl⟩
  have s0 : W0.heap.size = w.heap.size + 2 := by rw [← hW0, World.size_alloc, World.size_alloc]
  have b0 : Below w.heap.size w W0 := by rw [← hW0]; exact ((Below.refl _ _).alloc (Nat.le_refl _) _).alloc (by rw [World.size_alloc]; omega) _
  have G0 := Lib.hid (show W0.heap[w.heap.size]? = some (.cells #[.string (str x.name), .int .i64 x.ramp, .slice A x.stages.length c] 24 (0, 0)) by rw [← hW0]; exact hpA (heap_alloc_last w _) _)
  have G1 := Lib.hid (show W0.heap[w.heap.size + 1]? = some (.cells #[.string (str x.name), .int .i64 x.ramp, .slice B x.stages.length d] 24 (0, 0)) by rw [← hW0]; have h9 := heap_alloc_last (w.alloc (.cells #[.string (str x.name), .int .i64 x.ramp, .slice A x.stages.length c] 24)) (.cells #[.string (str x.name), .int .i64 x.ramp, .slice B x.stages.length d] 24); rw [World.size_alloc] at h9; exact h9)
  have H1 := Lib.hid (h1.next b0)
  have H2 := Lib.hid (h2.next b0)
  have HB0 := Lib.hid b0
  have HW0 := Lib.hid hW0
  clear h1 h2 b0 hW0
  go_enter Tryd.func18, Tryd.ntmps18
  go_wp2_with fail
  rw [HW0.out]
  go_loopw [5] (fun i wr => ∃ k : Nat, k ≤ x.stages.length ∧ i = .int .i64 k ∧ Below W0.heap.size W0 wr) (fun i _ => x.stages.length - (intOf i).toNat)
  case atStart => exact ⟨0, by omega, rfl, Below.refl _ _⟩
  case round =>
    obtain ⟨k, hk, rfl, hb⟩ := hrel
    have HB5 := Lib.hid hb
    have hsz := hb.size
    have u1 : wr.cell? ⟨w.heap.size, 2, none⟩ = some (.slice A x.stages.length c) := (hb.cell (p := ⟨w.heap.size, 2, none⟩) (by show w.heap.size < _; omega)).trans (cell_box G0.out rfl)
    have u2 : wr.cell? ⟨w.heap.size + 1, 2, none⟩ = some (.slice B x.stages.length d) := (hb.cell (p := ⟨w.heap.size + 1, 2, none⟩) (by show w.heap.size + 1 < _; omega)).trans (cell_box G1.out rfl)
    clear hb
    by_cases hlt : k < x.stages.length
    · have hx : x.stages[k]? = some x.stages[k] := List.getElem?_eq_getElem hlt
      obtain ⟨y, hn⟩ : ∃ n, x.stages[k] = n := ⟨_, rfl⟩
      rw [hn] at hx
      obtain ⟨ba, oa, hA, hba, qa0, qa1, qa2, qa3⟩ := RdSt.at_ (H1.out.below HB5.out) hx
      obtain ⟨bb, ob, hB, hbb, qb0, qb1, qb2, qb3⟩ := RdSt.at_ (H2.out.below HB5.out) hx
      subst hA hB
      have f1 : (0 : Int) ≤ (k : Int) := by omega
      have f2 : (k : Int) < (x.stages.length : Int) := by omega
      have hnq := neq_stg y
      clear hx hn
      go_wp2_with fail
      go_quiet (fail)
      go_wp2_with fail
      exact ⟨⟨k + 1, by omega, by go_num, below_drewNn HB5.out _⟩, by simp [intOf]; omega⟩
    · go_wp2_with fail
      go_ret
      exact ⟨rfl, HB0.out.trans (HB5.out.mono (by omega))⟩

set_option maxRecDepth 100000 in
set_option maxHeartbeats 1000000 in
theorem sameScs_any (l : List Sc) (va vb : Value) (w : World) (ha : RdSc w w.heap.size va l) (hb : RdSc w w.heap.size vb l) : Calls Tryd.prog 27 #[va, vb] w (TrueB w) := by
  obtain ⟨A, c, rfl, _, hml⟩ := ha.form
  obtain ⟨B, d, rfl, _, _⟩ := hb.form
  unfold maxLen at hml
  have HA := Lib.hid ha
  have HB := Lib.hid hb
  clear ha hb
  go_enter Tryd.func27, Tryd.ntmps27
  go_wp2_with fail
  go_loopw [5] (fun i wr => ∃ k : Nat, k ≤ l.length ∧ i = .int .i64 k ∧ Below w.heap.size w wr) (fun i _ => l.length - (intOf i).toNat)
  case atStart => exact ⟨0, by omega, rfl, Below.refl _ _⟩
  case round =>
    obtain ⟨k, hk, rfl, hbw⟩ := hrel
    have HBW := Lib.hid hbw
    have hsz := hbw.size
    clear hbw
    by_cases hlt : k < l.length
    · have hx : l[k]? = some l[k] := List.getElem?_eq_getElem hlt
      obtain ⟨x, hxe⟩ : ∃ x, l[k] = x := ⟨_, rfl⟩
      rw [hxe] at hx
      obtain ⟨ba, oa, A1, c1, rfl, hba, _, _, ri, p0, p1, p2⟩ := RdSc.at_ (HA.out.below HBW.out) hx
      obtain ⟨bb, ob, B1, d1, rfl, hbb, _, _, si, q0, q1, q2⟩ := RdSc.at_ (HB.out.below HBW.out) hx
      have f1 : (0 : Int) ≤ (k : Int) := by omega
      have f2 : (k : Int) < (l.length : Int) := by omega
      have S1 : Hid (∀ dd os, Calls Tryd.prog 18 #[.agg #[.string (str x.name), .int .i64 x.ramp, .slice A1 x.stages.length c1], .agg #[.string (str x.name), .int .i64 x.ramp, .slice B1 x.stages.length d1]] (grow (redrawn wr dd) os) fun e w' => e = .returned (.bool true) ∧ Below (grow (redrawn wr dd) os).heap.size (grow (redrawn wr dd) os) w') := fun dd os => by
        have hb := below_regrown wr dd os
        exact sameSc_any x A1 B1 c1 d1 _ ((ri.more hsz).next hb) ((si.more hsz).next hb)
      have y0 : ∀ dd os, (grow (redrawn wr dd) os).cell? ⟨ba, oa + k * 3, none⟩ = some (.string (str x.name)) := fun dd os => cell_regrown p0 dd os
      have y1 : ∀ dd os, (grow (redrawn wr dd) os).cell? ⟨ba, oa + k * 3 + 1, none⟩ = some (.int .i64 x.ramp) := fun dd os => cell_regrown p1 dd os
      have y2 : ∀ dd os, (grow (redrawn wr dd) os).cell? ⟨ba, oa + k * 3 + 2, none⟩ = some (.slice A1 x.stages.length c1) := fun dd os => cell_regrown p2 dd os
      have z0 : ∀ dd os, (grow (redrawn wr dd) os).cell? ⟨bb, ob + k * 3, none⟩ = some (.string (str x.name)) := fun dd os => cell_regrown q0 dd os
      have z1 : ∀ dd os, (grow (redrawn wr dd) os).cell? ⟨bb, ob + k * 3 + 1, none⟩ = some (.int .i64 x.ramp) := fun dd os => cell_regrown q1 dd os
      have z2 : ∀ dd os, (grow (redrawn wr dd) os).cell? ⟨bb, ob + k * 3 + 2, none⟩ = some (.slice B1 x.stages.length d1) := fun dd os => cell_regrown q2 dd os
      clear hx hxe ri si p0 p1 p2 q0 q1 q2
      go_wp2_with fail
      refine wp_region_quiet_below (by kernel_rfl) (by kernel_rfl) ?_
      repeat (first
        | (open Go.BigFrame in go_big_quiet_step ((with_reducible exact Calls.regrown_of (S1.out _ _))))
        | (quiet_step ((with_reducible exact Calls.regrown_of (S1.out _ _)))))
      refine wpQuiet_nil ?_
      rintro w6 ⟨z6, hw6⟩
      have HB6 := Lib.hid (HBW.out.trans ((show Below wr.heap.size wr w6 by rw [hw6]; exact below_regrown _ _ _).mono hsz))
      clear hw6 y0 y1 y2 z0 z1 z2
      go_wp2_with fail
      exact ⟨⟨k + 1, by omega, by go_num, HB6.out⟩, by simp [intOf]; omega⟩
    · go_wp2_with fail
      go_ret
      exact ⟨rfl, HBW.out⟩

end Go.Proofs.YtabdlldkkcjppaaDoor

namespace Saw
def scSlow : Sc := ⟨[115, 108, 111, 119], 20, [⟨3000, 0, 500, 60⟩, ⟨1500, 400, 600, 120⟩]⟩
def awT1 : List UInt8 := [115, 99, 104, 101, 100, 117, 108, 101, 32, 115, 108, 111, 119, 32, 114, 97, 109, 112, 32, 50, 48, 58, 32, 98, 101, 108, 111, 119, 32, 51, 48, 48, 48, 32, 97, 116, 32, 53, 48, 48, 32, 45, 32, 54, 48, 59, 32, 98, 101, 108, 111, 119, 32, 49, 53, 48, 48, 32, 102, 111, 114, 32, 52, 48, 48, 32, 97, 116, 32, 54, 48, 48, 32, 45, 32, 49, 50, 48, 59, 10]
def awT2 : List UInt8 := [115, 99, 104, 101, 100, 117, 108, 101, 32, 115, 108, 111, 119, 32, 114, 97, 109, 112, 32, 50, 48, 58, 32, 98, 101, 108, 111, 119, 32, 48, 32, 97, 116, 32, 53, 48, 48, 32, 45, 32, 54, 48, 59]
def awT3 : List UInt8 := [115, 99, 104, 101, 100, 117, 108, 101, 32, 115, 108, 111, 119, 32, 114, 97, 109, 112, 32, 50, 48, 58]
theorem aw_p1 : parseSc awT1 = ([scSlow], 0, 0) := by kernel_rfl
theorem aw_p2 : parseSc awT2 = ([], 5, 29) := by kernel_rfl
theorem aw_p3 : parseSc awT3 = ([], 3, 0) := by kernel_rfl
theorem aw_e1 : endsSc scSlow 0 0 3000 = (1, true) := by kernel_rfl
theorem aw_e2 : endsSc scSlow 0 99 3001 = (0, false) := by kernel_rfl
theorem aw_e3 : endsSc scSlow 1 400 9000 = (2, true) := by kernel_rfl
theorem aw_t : targetP scSlow 1 550 100 = (550, 100) := by kernel_rfl
theorem aw_c : checkSc scSlow = 0 := by kernel_rfl
theorem aw_f : formatSc [scSlow] = awT1 := by
  have hc : validP [scSlow] = true := by kernel_rfl
  rw [formatSc, if_pos hc, List.flatMap_cons, List.flatMap_nil, List.append_nil, scText, scHead]
  have e : scSlow.stages = [⟨3000, 0, 500, 60⟩, ⟨1500, 400, 600, 120⟩] := rfl
  rw [e, List.flatMap_cons, List.flatMap_cons, List.flatMap_nil, List.append_nil, stgText, stgText, partText, partText, partText, partText, if_pos (by decide), if_neg (by decide), if_pos (by decide), if_pos (by decide)]
  rw [itoa_decF scSlow.ramp (by decide) (by decide)]
  simp only []
  rw [itoa_decF 3000 (by decide) (by decide), itoa_decF 500 (by decide) (by decide), itoa_decF 60 (by decide) (by decide), itoa_decF 1500 (by decide) (by decide), itoa_decF 400 (by decide) (by decide), itoa_decF 600 (by decide) (by decide), itoa_decF 120 (by decide) (by decide)]
  show (_ : List UInt8) = _
  kernel_rfl
end Saw
namespace Go.Proofs.YtabdlldkkcjppaaDoor
open Go.RowKit Saw Go.Sort

theorem fields_clim : Tryd.prog.underlying 41 = some (.struct (Tryd.prog.fieldsOf 41)) := by kernel_rfl
theorem stood_clim : Tryd.prog.stoodInHeld 41 = false := by kernel_rfl
theorem guard_clim : Tryd.prog.eqGuardType Tryd.prog.depth 41 = false := by kernel_rfl
theorem eqlC (a b c d : Int) (W : World) : (binOp .eql 41 (.agg #[.int .i64 a, .int .i64 b]) (.agg #[.int .i64 c, .int .i64 d])).run Tryd.prog W = .ok (.bool (decide (a = c) && decide (b = d))) W := by
  have u3 := Tryd.underlying3
  have a3 := Tryd.isAgg3
  have z3 := Tryd.sizeOf3
  rw [run_eql_struct, show (10000 : Nat) = 9999 + 1 from rfl, run_equalIn_agg W 9999 41 _ _ fields_clim stood_clim]
  simp only [Program.fieldsOf, Tryd.underlying41]
  go_simp
  by_cases h1 : a = c <;> by_cases h2 : b = d <;> simp [h1, h2]
theorem eql_clim (W : World) : (binOp .eql 41 (.agg #[.int .i64 550, .int .i64 100]) (.agg #[.int .i64 550, .int .i64 100])).run Tryd.prog W = .ok (.bool true) W := eqlC 550 100 550 100 W
def LawS (w : World) (e : Ending) (w' : World) : Prop := e = .returned (.bool true) ∧ Below w.heap.size w w'
/-- The schedule of the examples stands in memory. -/
def AwSt (w W : World) : Prop := IsSc W (w.heap.size + 1) scSlow (.slice (some ⟨w.heap.size, 0, none⟩) 2 2) ∧ RdSt W W.heap.size (.slice (some ⟨w.heap.size, 0, none⟩) scSlow.stages.length 2) scSlow.stages ∧ Below w.heap.size w W
theorem AwSt.next {w W W' : World} (h : AwSt w W) (hb : Below W.heap.size W W') : AwSt w W' :=
  ⟨h.1.below hb h.1.cells.2.2.2.2.2.2, h.2.1.next hb, h.2.2.trans (hb.mono h.2.2.size)⟩
theorem aw_new (w : World) : AwSt w ((w.alloc (.cells #[.int .i64 3000, .int .i64 0, .int .i64 500, .int .i64 60, .int .i64 1500, .int .i64 400, .int .i64 600, .int .i64 120] 52)).alloc (.cells #[.string ⟨#[115, 108, 111, 119]⟩, .int .i64 20, .slice (some ⟨w.heap.size, 0, none⟩) 2 2] 24)) := by
  have h1 := Rd.of_own (ownsRow_new (w := w) (base := w.heap.size) (len := 2) (size := 4) (e := 52) (cs := stgsCells scSlow.stages) (Nat.le_refl _) rfl (by decide))
  obtain ⟨W, hW⟩ : ∃ W, w.alloc (.cells (stgsCells scSlow.stages).toArray 52) = W := ⟨_, rfl⟩
  have hb : Below w.heap.size w W := by rw [← hW]; exact (Below.refl _ _).alloc (Nat.le_refl _) _
  have hz : W.heap.size = w.heap.size + 1 := by rw [← hW, World.size_alloc]
  rw [hW] at h1
  show AwSt w ((w.alloc (.cells (stgsCells scSlow.stages).toArray 52)).alloc _)
  rw [hW]
  have h2 := heap_alloc_last W (.cells #[.string ⟨#[115, 108, 111, 119]⟩, .int .i64 20, .slice (some ⟨w.heap.size, 0, none⟩) 2 2] 24)
  rw [hz] at h2
  exact ⟨h2, Rd.next h1 ((Below.refl _ _).alloc (Nat.le_refl _) _), hb.alloc hb.size _⟩

set_option maxRecDepth 100000 in
set_option maxHeartbeats 2000000 in
theorem awakeS_any (w : World) (hv : VarsS w) : Calls Tryd.prog 13 #[] w (LawS w) := by
  have HV := Lib.hid hv
  clear hv
  have HS := Lib.hid (aw_new w)
  go_enter Tryd.func13, Tryd.ntmps13
  go_wp2_with fail
  refine (scParse_any _ _ (by decide) (HV.out.below HS.out.2.2 HV.out.2.2.1 HV.out.2.2.2)).mono ?_
  rintro e w1 ⟨v1, he, hrd, hb⟩
  rw [show bts _ = awT1 from rfl, aw_p1] at he hrd
  obtain ⟨A, c, rfl, _, _⟩ := hrd.form
  subst he
  have HRD := Lib.hid (show RdSc w1 w1.heap.size (.slice A 1 c) [scSlow] from hrd)
  have HS1 := Lib.hid (HS.out.next hb)
  clear hb hrd HS
  go_wp2_with fail
  refine (scParse_any _ _ (by decide) (HV.out.below HS1.out.2.2 HV.out.2.2.1 HV.out.2.2.2)).mono ?_
  rintro e w2 ⟨v2, he, _, hb⟩
  rw [show bts _ = awT2 from rfl, aw_p2] at he
  subst he
  have HRD2 := Lib.hid (HRD.out.next hb)
  have HS2 := Lib.hid (HS1.out.next hb)
  clear hb HRD HS1
  go_wp2_with fail
  refine (scParse_any _ _ (by decide) (HV.out.below HS2.out.2.2 HV.out.2.2.1 HV.out.2.2.2)).mono ?_
  rintro e w3 ⟨v3, he, _, hb⟩
  rw [show bts _ = awT3 from rfl, aw_p3] at he
  subst he
  have HRD3 := Lib.hid (HRD2.out.next hb)
  have HS3 := Lib.hid (HS2.out.next hb)
  obtain ⟨c0, c1, c2, _, _, _, _⟩ := HS3.out.1.cells
  clear hb HRD2 HS2
  go_wp2_with fail
  refine (ends_any scSlow (some ⟨w.heap.size, 0, none⟩) 2 0 0 3000 _ HS3.out.2.1).mono ?_
  rintro e w4 ⟨he, hb⟩
  rw [aw_e1] at he
  subst he
  have HRD4 := Lib.hid (HRD3.out.next hb)
  have HS4 := Lib.hid (HS3.out.next hb)
  clear hb HRD3 HS3 c0 c1 c2
  obtain ⟨c0, c1, c2, _, _, _, _⟩ := HS4.out.1.cells
  go_wp2_with fail
  refine (ends_any scSlow (some ⟨w.heap.size, 0, none⟩) 2 0 99 3001 _ HS4.out.2.1).mono ?_
  rintro e w5 ⟨he, hb⟩
  rw [aw_e2] at he
  subst he
  have HRD5 := Lib.hid (HRD4.out.next hb)
  have HS5 := Lib.hid (HS4.out.next hb)
  clear hb HRD4 HS4 c0 c1 c2
  obtain ⟨c0, c1, c2, _, _, _, _⟩ := HS5.out.1.cells
  go_wp2_with fail
  refine (ends_any scSlow (some ⟨w.heap.size, 0, none⟩) 2 1 400 9000 _ HS5.out.2.1).mono ?_
  rintro e w6 ⟨he, hb⟩
  rw [aw_e3] at he
  subst he
  have HRD6 := Lib.hid (HRD5.out.next hb)
  have HS6 := Lib.hid (HS5.out.next hb)
  clear hb HRD5 HS5 c0 c1 c2
  obtain ⟨c0, c1, c2, _, _, _, _⟩ := HS6.out.1.cells
  go_wp2_with fail
  refine (target_any scSlow (some ⟨w.heap.size, 0, none⟩) 2 1 ⟨[], 0, 0, 0, 0, 0, 0, 550, 100, 0, 0, 0, 0⟩ _ HS6.out.2.1).mono ?_
  rintro e w7 ⟨he, hb⟩
  rw [aw_t] at he
  subst he
  have HRD7 := Lib.hid (HRD6.out.next hb)
  have HS7 := Lib.hid (HS6.out.next hb)
  clear hb HRD6 HS6 c0 c1 c2
  obtain ⟨W8, hW8⟩ : ∃ W8, w7.alloc (.cells #[.int .i64 550, .int .i64 100] 41) = W8 := ⟨_, rfl⟩
  have hb8 : Below w7.heap.size w7 W8 := by rw [← hW8]; exact (Below.refl _ _).alloc (Nat.le_refl _) _
  have hg8 : W8.heap[w7.heap.size]? = some (.cells #[.int .i64 550, .int .i64 100] 41 (0, 0)) := by rw [← hW8]; exact heap_alloc_last w7 _
  have HS8 := Lib.hid (HS7.out.next hb8)
  have HRD8 := Lib.hid (HRD7.out.next hb8)
  have HG8 := Lib.hid hg8
  have HW8 := Lib.hid hW8
  have hl8 : w7.heap.size < W8.heap.size := by rw [← hW8, World.size_alloc]; omega
  clear hW8 hb8 hg8
  obtain ⟨b, off, A1, k1, rfl, hbl, _, _, hst, q0, q1, q2⟩ := RdSc.at_ HRD8.out (i := 0) (x := scSlow) rfl
  have HST := Lib.hid hst
  rw [Nat.zero_mul, Nat.add_zero] at q0 q1 q2
  have hgd : ∀ W : World, (binOp .eql 41 (.agg #[.int .i64 550, .int .i64 100]) (.agg #[.int .i64 550, .int .i64 100])).run Tryd.prog W = .ok (.bool true) W := eql_clim
  have hgg := fun W x' y' xs ys => run_eqGuard_agg (P := Tryd.prog) W .eql 41 x' y' xs ys guard_clim
  have S1 : Hid (∀ d os, Calls Tryd.prog 18 #[.agg #[.string (str scSlow.name), .int .i64 scSlow.ramp, .slice A1 scSlow.stages.length k1], .agg #[.string (str scSlow.name), .int .i64 scSlow.ramp, .slice (some ⟨w.heap.size, 0, none⟩) scSlow.stages.length 2]] (grow (redrawn W8 d) os) fun e w' => e = .returned (.bool true) ∧ Below (grow (redrawn W8 d) os).heap.size (grow (redrawn W8 d) os) w') := fun d os => by
    have hb := below_regrown W8 d os
    exact sameSc_any scSlow A1 (some ⟨w.heap.size, 0, none⟩) k1 2 _ (HST.out.next hb) (HS8.out.2.1.next hb)
  have S2 : Hid (∀ d os, Calls Tryd.prog 23 #[.slice (some ⟨b, off, none⟩) 1 c] (grow (redrawn W8 d) os) fun e w' => e = .returned (.string (str awT1)) ∧ Below (grow (redrawn W8 d) os).heap.size (grow (redrawn W8 d) os) w') := fun d os => by
    have hb := below_regrown W8 d os
    have hbw := HS8.out.2.2.trans (hb.mono HS8.out.2.2.size)
    refine (scFormat_any [scSlow] _ _ (HRD8.out.next hb) (by decide) (by decide) (HV.out.below hbw HV.out.2.2.1 HV.out.2.2.2)).mono fun e w' ⟨he, hb⟩ => ⟨by rw [he, aw_f], hb⟩
  have S3 : Hid (∀ d os, Calls Tryd.prog 16 #[.agg #[.string (str scSlow.name), .int .i64 scSlow.ramp, .slice (some ⟨w.heap.size, 0, none⟩) scSlow.stages.length 2]] (grow (redrawn W8 d) os) fun e w' => e = .returned (.int .i64 0) ∧ Below (grow (redrawn W8 d) os).heap.size (grow (redrawn W8 d) os) w') := fun d os =>
    (scCheck_any scSlow (some ⟨w.heap.size, 0, none⟩) 2 _ (HS8.out.2.1.next (below_regrown W8 d os)) (by decide)).mono fun e w' ⟨he, hb⟩ => ⟨by rw [he, aw_c], hb⟩
  have y0 : ∀ d os, (grow (redrawn W8 d) os).cell? ⟨b, off, none⟩ = some (.string (str scSlow.name)) := fun d os => cell_regrown q0 d os
  have y1 : ∀ d os, (grow (redrawn W8 d) os).cell? ⟨b, off + 1, none⟩ = some (.int .i64 scSlow.ramp) := fun d os => cell_regrown q1 d os
  have y2 : ∀ d os, (grow (redrawn W8 d) os).cell? ⟨b, off + 2, none⟩ = some (.slice A1 scSlow.stages.length k1) := fun d os => cell_regrown q2 d os
  have z0 : ∀ d os, (grow (redrawn W8 d) os).cell? ⟨w.heap.size + 1, 0, none⟩ = some (.string (str scSlow.name)) := fun d os => cell_regrown HS8.out.1.cells.1 d os
  have z1 : ∀ d os, (grow (redrawn W8 d) os).cell? ⟨w.heap.size + 1, 1, none⟩ = some (.int .i64 scSlow.ramp) := fun d os => cell_regrown HS8.out.1.cells.2.1 d os
  have z2 : ∀ d os, (grow (redrawn W8 d) os).cell? ⟨w.heap.size + 1, 2, none⟩ = some (.slice (some ⟨w.heap.size, 0, none⟩) scSlow.stages.length 2) := fun d os => cell_regrown HS8.out.1.cells.2.2.1 d os
  have x0 : ∀ d os, (grow (redrawn W8 d) os).cell? ⟨w7.heap.size, 0, none⟩ = some (.int .i64 550) := fun d os => cell_regrown (cell_of_box HG8.out rfl) d os
  have x1 : ∀ d os, (grow (redrawn W8 d) os).cell? ⟨w7.heap.size, 1, none⟩ = some (.int .i64 100) := fun d os => cell_regrown (cell_of_box HG8.out rfl) d os
  have hpe : ((str awT1).toList == [115, 99, 104, 101, 100, 117, 108, 101, 32, 115, 108, 111, 119, 32, 114, 97, 109, 112, 32, 50, 48, 58, 32, 98, 101, 108, 111, 119, 32, 51, 48, 48, 48, 32, 97, 116, 32, 53, 48, 48, 32, 45, 32, 54, 48, 59, 32, 98, 101, 108, 111, 119, 32, 49, 53, 48, 48, 32, 102, 111, 114, 32, 52, 48, 48, 32, 97, 116, 32, 54, 48, 48, 32, 45, 32, 49, 50, 48, 59, 10]) = true := by rw [toList_bts, bts_str]; kernel_rfl
  have hls : [scSlow].length = 1 := rfl
  clear hst q0 q1 q2
  go_wp2_with fail
  rw [HW8.out]
  refine wp_region_quiet_below (by kernel_rfl) (by kernel_rfl) ?_
  repeat (first
    | (open Go.BigFrame in go_big_quiet_step ((first | (with_reducible exact Calls.regrown_of (S1.out _ _)) | (with_reducible exact Calls.regrown_of (S2.out _ _)) | (with_reducible exact Calls.regrown_of (S3.out _ _)))))
    | (quiet_step ((first | (with_reducible exact Calls.regrown_of (S1.out _ _)) | (with_reducible exact Calls.regrown_of (S2.out _ _)) | (with_reducible exact Calls.regrown_of (S3.out _ _))))))
  refine wpQuiet_nil ?_
  rintro w6 ⟨p6, hw6⟩
  have HBX := Lib.hid (HS8.out.2.2.trans ((show Below W8.heap.size W8 w6 by rw [hw6]; exact below_regrown _ _ _).mono HS8.out.2.2.size))
  clear hw6 y0 y1 y2 z0 z1 z2 x0 x1 hpe
  go_wp2_with fail
  go_ret
  exact ⟨rfl, HBX.out⟩

end Go.Proofs.YtabdlldkkcjppaaDoor
