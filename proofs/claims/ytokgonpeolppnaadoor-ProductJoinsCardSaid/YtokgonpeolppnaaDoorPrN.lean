/-
  The law's functions Plank, Short and awake (chapter 19).
-/
import Derived.Test.YtokgonpeolppnaaDoorPrK
import Derived.Test.YtokgonpeolppnaaDoorPrL
namespace Saw
def plankQ : Pr := ⟨[112, 108, 97, 110, 107], 40, 100, 50, 0, [2000], [70]⟩
def prA : Pr := ⟨[97], 25, 100, 0, 100, [1000, 2000], [10, 25]⟩
def awS1 : List UInt8 := [112, 114, 111, 100, 117, 99, 116, 32, 97, 32, 50, 53, 32, 120, 32, 49, 48, 48, 32, 97, 108, 108, 111, 119, 32, 48, 32, 119, 97, 110, 101, 32, 49, 48, 48, 58, 32, 49, 48, 48, 48, 32, 64, 32, 49, 48, 44, 32, 50, 48, 48, 48, 32, 64, 32, 50, 53, 59]
def awS2 : List UInt8 := [112, 114, 111, 100, 117, 99, 116, 32, 97, 32, 50, 53, 32, 121]
def awS3 : List UInt8 := [112, 114, 111, 100, 117, 99, 116, 32, 112, 108, 97, 110, 107, 32, 52, 48, 32, 120, 32, 49, 48, 48, 32, 97, 108, 108, 111, 119, 32, 53, 48, 32, 119, 97, 110, 101, 32, 48, 58, 32, 50, 48, 48, 48, 32, 64, 32, 55, 48, 59, 10]
theorem aw_green : greenP plankQ = (42, 105) := by kernel_rfl
theorem aw_vol : volumeP plankQ 1000 = 4000000 := by kernel_rfl
theorem aw_p1 : parsePr awS1 = ([prA], 0, 0) := by kernel_rfl
theorem aw_p2 : parsePr awS2 = ([], 5, 13) := by kernel_rfl
theorem aw_price : priceP prA 2000 = some 25 := by kernel_rfl
theorem aw_find : findPr [prA] [97] = some 0 := by kernel_rfl
theorem aw_check : checkPr [prA] = 0 := by kernel_rfl
theorem aw_fmt : formatPr [plankQ] = awS3 := by
  have hc : checkPr [plankQ] = 0 := by kernel_rfl
  rw [formatPr, if_pos hc, List.flatMap_cons, List.flatMap_nil, List.append_nil, prText, prHeadA, prHeadB]
  have e : plankQ.lens.zip plankQ.prices = [(2000, 70)] := rfl
  rw [e, pairsFrom, pairsFrom, pairText]
  rw [itoa_decF plankQ.thick (by decide) (by decide), itoa_decF plankQ.width (by decide) (by decide), itoa_decF plankQ.allow (by decide) (by decide), itoa_decF plankQ.wane (by decide) (by decide), itoa_decF (2000, 70).1 (by decide) (by decide), itoa_decF (2000, 70).2 (by decide) (by decide)]
  show (_ : List UInt8) = _
  kernel_rfl
def shortOne (x : Pr) : Bool := decide (x.lens.length ≤ 12) && decide (x.prices.length ≤ 12) && decide (x.name.length ≤ 100)
def shortP (l : List Pr) : Bool := decide (l.length ≤ 20) && l.all shortOne
theorem shortP_ok {l : List Pr} (h : shortP l = true) : l.length ≤ 20 ∧ ∀ x ∈ l, x.lens.length ≤ 12 ∧ x.prices.length ≤ 12 ∧ x.name.length ≤ 100 := by
  simp only [shortP, shortOne, Bool.and_eq_true, decide_eq_true_eq, List.all_eq_true] at h
  exact ⟨h.1, fun x hx => ⟨(h.2 x hx).1.1, (h.2 x hx).1.2, (h.2 x hx).2⟩⟩
/-- Short, from an index on. -/
def shortFrom (l : List Pr) (k : Nat) : Bool := decide (l.length ≤ 20) && (l.drop k).all shortOne
theorem shortFrom_at {l : List Pr} {k : Nat} {x : Pr} (h : l[k]? = some x) : shortFrom l k = (shortOne x && shortFrom l (k + 1)) := by
  obtain ⟨hk, hx⟩ := List.getElem?_eq_some_iff.1 h
  rw [shortFrom, shortFrom, List.drop_eq_getElem_cons hk, hx, List.all_cons]
  cases decide (l.length ≤ 20) <;> simp
theorem shortFrom_end {l : List Pr} {k : Nat} (h : ¬ k < l.length) (hk : k ≤ 20) : shortFrom l k = true := by
  rw [shortFrom, List.drop_eq_nil_of_le (by omega), decide_eq_true (by omega)]; rfl
end Saw
namespace Go.Proofs.YtokgonpeolppnaaDoor
open Go.RowKit Saw Go.Sort

/-- The package-level variables that the walks read. -/
def VarsP (w : World) : Prop := Pow w ∧ 0 < w.heap.size
theorem VarsP.below {w w' : World} (h : VarsP w) (hb : Below w.heap.size w w') : VarsP w' := ⟨h.1.below hb h.2, Nat.lt_of_lt_of_le h.2 hb.size⟩
def LawP (w : World) (e : Ending) (w' : World) : Prop := e = .returned (.bool true) ∧ Below w.heap.size w w'

def PlankPost (w : World) (e : Ending) (w' : World) : Prop :=
  e = .returned (.agg #[.string (str plankQ.name), .int .i64 plankQ.thick, .int .i64 plankQ.width, .int .i64 plankQ.allow, .int .i64 plankQ.wane, .slice (some ⟨w.heap.size + 1, 0, none⟩) 1 1, .slice (some ⟨w.heap.size + 2, 0, none⟩) 1 1]) ∧
    RdI w' w'.heap.size (.slice (some ⟨w.heap.size + 1, 0, none⟩) 1 1) plankQ.lens ∧ RdI w' w'.heap.size (.slice (some ⟨w.heap.size + 2, 0, none⟩) 1 1) plankQ.prices ∧ Below w.heap.size w w'

set_option maxRecDepth 100000 in
set_option maxHeartbeats 400000 in
theorem plankQ_any (w : World) : Calls Tryd.prog 34 #[] w (PlankPost w) := by
  go_enter Tryd.func34, Tryd.ntmps34
  go_wp2_with (first
    | ((with_reducible refine pr_alloc ?_); intro c9 H9; have HZ := Lib.hid (show (((w.alloc (.cells c9 29)).alloc (.cells #[.int .i64 2000] 3)).alloc (.cells #[.int .i64 70] 3)).heap[w.heap.size]? = some (.cells c9 29 (0, 0)) from hpA (hpA (heap_alloc_last w _) _) _))
    | ((with_reducible refine pr_put w.heap.size plankQ (.slice (some ⟨w.heap.size + 1, 0, none⟩) 1 1) (.slice (some ⟨w.heap.size + 2, 0, none⟩) 1 1) rfl rfl ?hx ?hy HZ.out H9 ?_); (case hx => rfl); (case hy => rfl)))
  obtain ⟨W0, hW0⟩ : ∃ W0, w.alloc (.cells c9 29) = W0 := ⟨_, rfl⟩
  have s0 : W0.heap.size = w.heap.size + 1 := by rw [← hW0, World.size_alloc]
  have b0 : Below w.heap.size w W0 := by rw [← hW0]; exact (Below.refl _ _).alloc (Nat.le_refl _) _
  have h1 := Rd.of_own (ownsRow_new (w := W0) (base := W0.heap.size) (len := 1) (size := 1) (e := 3) (cs := ints [2000]) (Nat.le_refl _) rfl (by decide))
  obtain ⟨W1, hW1⟩ : ∃ W1, W0.alloc (.cells (ints [2000]).toArray 3) = W1 := ⟨_, rfl⟩
  have s1 : W1.heap.size = w.heap.size + 2 := by rw [← hW1, World.size_alloc, s0]
  have b1 : Below W0.heap.size W0 W1 := by rw [← hW1]; exact (Below.refl _ _).alloc (Nat.le_refl _) _
  have h2 := Rd.of_own (ownsRow_new (w := W1) (base := W1.heap.size) (len := 1) (size := 1) (e := 3) (cs := ints [70]) (Nat.le_refl _) rfl (by decide))
  obtain ⟨W2, hW2⟩ : ∃ W2, W1.alloc (.cells (ints [70]).toArray 3) = W2 := ⟨_, rfl⟩
  have s2 : W2.heap.size = w.heap.size + 3 := by rw [← hW2, World.size_alloc, s1]
  have b2 : Below W1.heap.size W1 W2 := by rw [← hW2]; exact (Below.refl _ _).alloc (Nat.le_refl _) _
  rw [hW1, s0] at h1
  rw [hW2, s1] at h2
  have hWW : ((w.alloc (.cells c9 29)).alloc (.cells #[.int .i64 2000] 3)).alloc (.cells #[.int .i64 70] 3) = W2 := by rw [hW0, show (#[Value.int .i64 2000] : Array Value) = (ints [2000]).toArray from rfl, hW1, show (#[Value.int .i64 70] : Array Value) = (ints [70]).toArray from rfl, hW2]
  have hz := HZ.out
  rw [hWW] at hz
  rw [hWW]
  have k1 : ∀ {v : Value} {l : List Int}, (∃ b o c, v = .slice (some ⟨b, o, none⟩) l.length c ∧ b ≠ w.heap.size) → RdI W2 W2.heap.size v l → RdI (W2.setRow w.heap.size (prCells plankQ (.slice (some ⟨w.heap.size + 1, 0, none⟩) 1 1) (.slice (some ⟨w.heap.size + 2, 0, none⟩) 1 1)).toArray) W2.heap.size v l := by
    rintro v l ⟨b, o, c, rfl, hne⟩ ⟨q1, q2, A, c', he, q3, q4⟩
    injection he with e1 e2 e3
    subst e1 e3
    refine ⟨q1, q2, _, _, rfl, q3, fun hn => ?_⟩
    obtain ⟨b', o', he', q5, q6⟩ := q4 hn
    injection he' with he'
    injection he' with e1 e2
    subst e1 e2
    refine ⟨b, o, rfl, q5, fun j u hu => ?_⟩
    rw [← q6 j u hu]
    exact World.cell?_of_block (a := ⟨b, o + j, none⟩) (setRow_other _ _ _ _ hne)
  have hs : (W2.setRow w.heap.size (prCells plankQ (.slice (some ⟨w.heap.size + 1, 0, none⟩) 1 1) (.slice (some ⟨w.heap.size + 2, 0, none⟩) 1 1)).toArray).heap.size = W2.heap.size := by simp [World.setRow]
  refine bodyPost_ret (v := .agg (prCells plankQ (.slice (some ⟨w.heap.size + 1, 0, none⟩) 1 1) (.slice (some ⟨w.heap.size + 2, 0, none⟩) 1 1)).toArray) ?_ rfl ⟨rfl, ?_, ?_, ?_⟩
  · exact results_cell1 Tryd.results34 _ _ w.heap.size 0 (prCells plankQ (.slice (some ⟨w.heap.size + 1, 0, none⟩) 1 1) (.slice (some ⟨w.heap.size + 2, 0, none⟩) 1 1)) rfl (rangeAt_block (setRow_heap _ _ _ _ _ _ hz)) Tryd.underlying29 rfl pr_info
  · rw [hs]
    exact k1 ⟨_, _, _, rfl, by omega⟩ (Rd.next h1 b2)
  · rw [hs]
    exact k1 ⟨_, _, _, rfl, by omega⟩ h2
  · exact Below.setRow (b0.trans ((b1.trans (b2.mono (by omega))).mono (by omega))) (Nat.le_refl _) _

set_option maxRecDepth 100000 in
set_option maxHeartbeats 1000000 in
theorem short_any (l : List Pr) (v : Value) (w : World) (hrd : RdPr w w.heap.size v l) (hnm : ∀ x ∈ l, x.name.length ≤ 9223372036854775807) :
    Calls Tryd.prog 12 #[v] w fun e w' => e = .returned (.bool (shortP l)) ∧ w = w' := by
  obtain ⟨A, c, rfl, hc, hml⟩ := hrd.form
  obtain ⟨r, hr⟩ : ∃ r, shortP l = r := ⟨_, rfl⟩
  rw [hr]
  unfold maxLen at hml
  have HR := Lib.hid (show shortFrom l 0 = r from hr)
  have HRD := Lib.hid hrd
  have HNM := Lib.hid hnm
  clear hr hrd hnm
  go_enter Tryd.func12, Tryd.ntmps12
  go_wp2_with fail
  go_loop [3] (fun i => ∃ k : Nat, k ≤ l.length ∧ k ≤ 20 ∧ i = .int .i64 k ∧ shortFrom l k = r) (fun i => l.length - (intOf i).toNat)
  case atStart => exact ⟨0, by omega, by omega, rfl, HR.out⟩
  case round =>
    obtain ⟨k, hk, hk2, rfl, hrk⟩ := hrel
    by_cases hlt : k < l.length
    · have hx : l[k]? = some l[k] := List.getElem?_eq_getElem hlt
      obtain ⟨x, hxe⟩ : ∃ x, l[k] = x := ⟨_, rfl⟩
      have hxn : (str x.name).size ≤ 9223372036854775807 := by rw [size_str]; exact HNM.out x (by rw [← hxe]; exact List.getElem_mem hlt)
      rw [hxe] at hx
      rw [shortFrom_at hx] at hrk
      obtain ⟨b, off, A1, c1, A2, c2, rfl, hbl, hm1, hm2, _, _, q0, q1, q2, q3, q4, q5, q6⟩ := RdPr.at_ HRD.out hx
      unfold maxLen at hm1 hm2
      have hsn : (str x.name).size = x.name.length := size_str _
      have HST := Lib.hid hrk
      have HLT := Lib.hid (show 20 ≤ k → shortFrom l (k + 1) = false from fun h => by rw [shortFrom, decide_eq_false (by omega)]; rfl)
      clear hrk hx hxe
      by_cases z0 : 20 ≤ k
      · have hrz : r = false := by rw [← HST.out, HLT.out z0, Bool.and_false]
        subst hrz
        clear hsn
        go_wp2_with fail
        go_ret
        exact ⟨rfl, rfl⟩
      · by_cases z1 : 12 < x.lens.length
        · have hrz : r = false := by rw [← HST.out, shortOne, decide_eq_false (show ¬ x.lens.length ≤ 12 by omega)]; simp
          subst hrz
          clear hsn
          go_wp2_with fail
          go_ret
          exact ⟨rfl, rfl⟩
        · by_cases z2 : 12 < x.prices.length
          · have hrz : r = false := by rw [← HST.out, shortOne, decide_eq_false (show ¬ x.prices.length ≤ 12 by omega)]; simp
            subst hrz
            clear hsn
            go_wp2_with fail
            go_ret
            exact ⟨rfl, rfl⟩
          · by_cases z3 : 100 < (str x.name).size
            · have hrz : r = false := by rw [← HST.out, shortOne, decide_eq_false (show ¬ x.name.length ≤ 100 by omega)]; simp
              subst hrz
              clear hsn
              go_wp2_with fail
              go_ret
              exact ⟨rfl, rfl⟩
            · have HN := Lib.hid (show shortFrom l (k + 1) = r by rw [← HST.out, shortOne, decide_eq_true (show x.name.length ≤ 100 by omega), decide_eq_true (show x.lens.length ≤ 12 by omega), decide_eq_true (show x.prices.length ≤ 12 by omega)]; rfl)
              clear hsn
              go_wp2_with fail
              exact ⟨⟨k + 1, by omega, by omega, by go_num, HN.out⟩, by simp [intOf]; omega⟩
    · have hrz : r = true := by rw [← hrk, shortFrom_end hlt hk2]
      subst hrz
      clear hrk HR
      go_wp2_with fail
      go_ret
      exact ⟨rfl, rfl⟩

end Go.Proofs.YtokgonpeolppnaaDoor
