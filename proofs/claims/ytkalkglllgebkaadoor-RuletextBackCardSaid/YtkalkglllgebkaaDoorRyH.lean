/-
  The law's functions nodes, few and both (chapter 44).
-/
import Derived.Test.YtkalkglllgebkaaDoorRyF
import Derived.Test.YtkalkglllgebkaaDoorRzS
namespace Saw
def ndF : Fo → Int → Int → Int
  | .nil, _, n => n
  | .cons _ _ nm k r, d, n => if n ≤ 600 then ndF r d (n + (if 40 < d ∨ 20 < (k.toList.length : Int) ∨ 200 < (nm.length : Int) then 1000 else ndF k (d + 1) 1)) else n
def nodesP (x : Ex) (d : Int) : Int := if 40 < d ∨ 20 < (x.kids.toList.length : Int) ∨ 200 < (x.name.length : Int) then 1000 else ndF x.kids (d + 1) 1
def ndStep (d n : Int) (x : Ex) : Int := if n ≤ 600 then n + nodesP x d else n
theorem nd_stay (d : Int) : ∀ (l : List Ex) (n : Int), ¬ n ≤ 600 → l.foldl (ndStep d) n = n
  | [], n, _ => rfl
  | x :: l, n, h => by rw [List.foldl_cons, ndStep, if_neg h]; exact nd_stay d l n h
theorem ndF_fold : ∀ (f : Fo) (d n : Int), ndF f d n = f.toList.foldl (ndStep d) n
  | .nil, _, _ => rfl
  | .cons o m nm k r, d, n => by
    rw [Fo.toList, List.foldl_cons, ndStep]
    by_cases h : n ≤ 600
    · rw [if_pos h, ndF, if_pos h, ndF_fold r]; rfl
    · rw [if_neg h, ndF, if_neg h, nd_stay d _ _ h]
theorem ndF_ge : ∀ (f : Fo) (d n : Int), 1 ≤ n → n ≤ ndF f d n
  | .nil, _, n, _ => Int.le_refl n
  | .cons o m nm k r, d, n, h => by
    rw [ndF]
    by_cases h6 : n ≤ 600
    · rw [if_pos h6]
      have h1 : 0 ≤ (if 40 < d ∨ 20 < (k.toList.length : Int) ∨ 200 < (nm.length : Int) then 1000 else ndF k (d + 1) 1) := by
        split
        · decide
        · have := ndF_ge k (d + 1) 1 (by decide); omega
      have := ndF_ge r d (n + (if 40 < d ∨ 20 < (k.toList.length : Int) ∨ 200 < (nm.length : Int) then 1000 else ndF k (d + 1) 1)) (by omega)
      omega
    · rw [if_neg h6]; exact Int.le_refl n
theorem ndF_le : ∀ (f : Fo) (d n : Int), d ≤ 41 → 1 ≤ n → n ≤ 1000 + 600 * (42 - d) → ndF f d n ≤ 1000 + 600 * (42 - d)
  | .nil, _, n, _, _, h => h
  | .cons o m nm k r, d, n, hd, h, hu => by
    rw [ndF]
    by_cases h6 : n ≤ 600
    · rw [if_pos h6]
      have h1 : 0 ≤ (if 40 < d ∨ 20 < (k.toList.length : Int) ∨ 200 < (nm.length : Int) then 1000 else ndF k (d + 1) 1) ∧ (if 40 < d ∨ 20 < (k.toList.length : Int) ∨ 200 < (nm.length : Int) then 1000 else ndF k (d + 1) 1) ≤ 1000 + 600 * (41 - d) := by
        split
        · exact ⟨by decide, by omega⟩
        · rename_i hn
          have := ndF_ge k (d + 1) 1 (by decide)
          have := ndF_le k (d + 1) 1 (by omega) (by decide) (by omega)
          omega
      exact ndF_le r d _ hd (by omega) (by omega)
    · rw [if_neg h6]; exact hu
theorem nodesP_in (x : Ex) {d : Int} (hd : d ≤ 41) : 1 ≤ nodesP x d ∧ nodesP x d ≤ 1000 + 600 * (41 - d) := by
  unfold nodesP
  split
  · omega
  · rename_i hn
    have := ndF_ge x.kids (d + 1) 1 (by decide)
    have := ndF_le x.kids (d + 1) 1 (by omega) (by decide) (by omega)
    omega
theorem ndF_nm : ∀ (f : Fo) (d n : Int), 1 ≤ n → ndF f d n ≤ 600 → nmF 200 f
  | .nil, _, _, _, _ => trivial
  | .cons o m nm k r, d, n, h, hu => by
    rw [ndF] at hu
    by_cases h6 : n ≤ 600
    · rw [if_pos h6] at hu
      by_cases hc : 40 < d ∨ 20 < (k.toList.length : Int) ∨ 200 < (nm.length : Int)
      · rw [if_pos hc] at hu
        have := ndF_ge r d (n + 1000) (by omega)
        omega
      · rw [if_neg hc] at hu
        have h1 := ndF_ge k (d + 1) 1 (by decide)
        have h2 := ndF_ge r d (n + ndF k (d + 1) 1) (by omega)
        exact ⟨by omega, ndF_nm k (d + 1) 1 (by decide) (by omega), ndF_nm r d _ (by omega) hu⟩
    · rw [if_neg h6] at hu; omega
theorem nodes_nm {x : Ex} {d : Int} (h : nodesP x d ≤ 600) : NmE 200 x := by
  unfold nodesP at h
  by_cases hc : 40 < d ∨ 20 < (x.kids.toList.length : Int) ∨ 200 < (x.name.length : Int)
  · rw [if_pos hc] at h; omega
  · rw [if_neg hc] at h
    exact ⟨by omega, ndF_nm _ _ _ (by decide) h⟩
/-- At most 40 rules, at most 600 nodes in all. -/
def ndRl (n : Int) (x : Rl) : Int := n + nodesP x.when_ 1
def fewP (l : List Rl) : Bool := decide ((l.length : Int) ≤ 40) && decide (l.foldl ndRl 0 ≤ 600)
theorem ndRl_ge : ∀ (l : List Rl) (n : Int), n ≤ l.foldl ndRl n
  | [], n => Int.le_refl n
  | x :: l, n => by
    rw [List.foldl_cons]
    have := ndRl_ge l (ndRl n x)
    have := nodesP_in x.when_ (d := 1) (by decide)
    unfold ndRl at *
    omega
theorem ndRl_each : ∀ (l : List Rl) (n : Int), 0 ≤ n → l.foldl ndRl n ≤ 600 → ∀ x ∈ l, nodesP x.when_ 1 ≤ 600
  | [], _, _, _, x, hx => by cases hx
  | y :: l, n, h0, h, x, hx => by
    rw [List.foldl_cons] at h
    have h1 := ndRl_ge l (ndRl n y)
    have h2 := nodesP_in y.when_ (d := 1) (by decide)
    have h3 : ndRl n y = n + nodesP y.when_ 1 := rfl
    rcases List.mem_cons.1 hx with rfl | hx
    · omega
    · exact ndRl_each l _ (by omega) h x hx
theorem few_each {l : List Rl} (h : fewP l = true) : l.length ≤ 40 ∧ ∀ x ∈ l, nodesP x.when_ 1 ≤ 600 := by
  unfold fewP at h
  rw [Bool.and_eq_true, decide_eq_true_iff, decide_eq_true_iff] at h
  exact ⟨by omega, ndRl_each l 0 (by decide) h.2⟩
end Saw
namespace Go.Proofs.YtkalkglllgebkaaDoor
open Go.RowKit Saw Go.Sort

set_option maxRecDepth 100000 in
set_option maxHeartbeats 2000000 in
theorem nodes_any : ∀ (N : Nat) (x : Ex), x.size ≤ N → ∀ (d : Int) (A : Option Addr) (c : Nat) (w : World), 1 ≤ d → d ≤ 41 → RdFo w (Iv 0 w.heap.size) (.slice A x.kids.toList.length c) x.kids →
    Calls Tryd.prog 11 #[.agg #[.int .i64 x.op, .int .i64 x.n, .string (str x.name), .slice A x.kids.toList.length c], .int .i64 d] w (IntB (nodesP x d) w) := by
  intro N
  induction N with
  | zero => intro x h; simp only [Ex.size] at h; omega
  | succ N ih =>
    intro x hN d A c w hd1 hd2 hrd
    obtain ⟨_, _, _, hc1, hml⟩ := hrd.form
    clear hc1
    unfold maxLen at hml
    have HRD := Lib.hid hrd
    have HI := Lib.hid ih
    have HD1 := Lib.hid hd1
    have HD2 := Lib.hid hd2
    clear ih hrd hd1
    obtain ⟨q, hq⟩ : ∃ q, nodesP x d = q := ⟨_, rfl⟩
    rw [hq]
    have HQ := Lib.hid hq
    clear hq
    by_cases hdd : 40 < d
    · have hq1 : q = 1000 := by rw [← HQ.out, nodesP, if_pos (Or.inl hdd)]
      subst hq1
      clear hd2
      go_enter Tryd.func11, Tryd.ntmps11
      go_wp2_with fail
      go_ret
      exact ⟨rfl, bel_alloc (Below.refl _ _)⟩
    clear hd2
    by_cases hkk : 20 < (x.kids.toList.length : Int)
    · have hq1 : q = 1000 := by rw [← HQ.out, nodesP, if_pos (Or.inr (Or.inl hkk))]
      subst hq1
      go_enter Tryd.func11, Tryd.ntmps11
      go_wp2_with fail
      go_ret
      exact ⟨rfl, bel_alloc (Below.refl _ _)⟩
    by_cases hnn : 200 < (x.name.length : Int)
    · have hq1 : q = 1000 := by rw [← HQ.out, nodesP, if_pos (Or.inr (Or.inr hnn))]
      subst hq1
      have hsz : 200 < ((str x.name).size : Int) := by rw [size_str]; exact hnn
      clear hnn
      go_enter Tryd.func11, Tryd.ntmps11
      go_wp2_with fail
      go_ret
      exact ⟨rfl, bel_alloc (Below.refl _ _)⟩
    have hsz : ¬ 200 < ((str x.name).size : Int) := by rw [size_str]; exact hnn
    have HF := Lib.hid (show (x.kids.toList.drop 0).foldl (ndStep (d + 1)) 1 = q by rw [← HQ.out, nodesP, if_neg (by simp only [not_or]; exact ⟨hdd, hkk, hnn⟩), ndF_fold]; rfl)
    clear hnn HQ
    have HDD := Lib.hid hdd
    have HKK := Lib.hid hkk
    have hB := bel_alloc (ob := .cells #[.int .i64 x.op, .int .i64 x.n, .string (str x.name), .slice A x.kids.toList.length c] 24) (Below.refl w.heap.size w)
    have hR1 := heap_alloc_last w (.cells #[.int .i64 x.op, .int .i64 x.n, .string (str x.name), .slice A x.kids.toList.length c] 24)
    go_enter Tryd.func11, Tryd.ntmps11
    go_wp2_with fail
    obtain ⟨n0, hn0⟩ : ∃ n, w.heap.size = n := ⟨_, rfl⟩
    obtain ⟨W0, hW0⟩ : ∃ W, w.alloc (.cells #[.int .i64 x.op, .int .i64 x.n, .string (str x.name), .slice A x.kids.toList.length c] 24) = W := ⟨_, rfl⟩
    rw [hW0] at hB hR1 ⊢
    have HRA0 := Lib.hid (HRD.out.next hB)
    have HB := Lib.hid hB
    rw [hn0] at hR1 ⊢
    have HR1 := Lib.hid hR1
    clear hB hR1 hW0 hn0 hsz hdd hkk HRD
    go_loopw [5, 6] (fun t5 t6 wr => ∃ (k : Nat) (n : Int), k ≤ x.kids.toList.length ∧ t6 = .int .i64 k ∧ t5 = .int .i64 n ∧ 1 ≤ n ∧ n ≤ 1000 + 600 * (41 - d) ∧ (x.kids.toList.drop k).foldl (ndStep (d + 1)) n = q ∧ Below W0.heap.size W0 wr) (fun _ t6 _ => x.kids.toList.length - (intOf t6).toNat)
    case atStart => exact ⟨0, 1, by omega, rfl, rfl, by omega, by have := HDD.out; omega, HF.out, Below.refl _ _⟩
    case round =>
      obtain ⟨k, n, hk, rfl, rfl, hn1, hn2, hf, hb⟩ := hrel
      have HB0 := Lib.hid hb
      have HFK := Lib.hid hf
      have HN := Lib.hid (And.intro hn1 hn2)
      have hsz := hb.size
      have r1 : wr.cell? ⟨n0, 3, none⟩ = some (.slice A x.kids.toList.length c) := (hb.cell (p := ⟨n0, 3, none⟩) (Array.getElem?_eq_some_iff.1 HR1.out).1).trans (cell_of_box HR1.out rfl)
      clear hb hf hn2
      by_cases hlt : k < x.kids.toList.length
      · by_cases h6 : n ≤ 600
        · have hx : x.kids.toList[k]? = some x.kids.toList[k] := List.getElem?_eq_getElem hlt
          obtain ⟨y, hye⟩ : ∃ y, x.kids.toList[k] = y := ⟨_, rfl⟩
          have hdr := List.drop_eq_getElem_cons hlt
          rw [hye] at hx hdr
          have HSZ := Lib.hid (kids_size (List.mem_of_getElem? hx))
          obtain ⟨ba, oa, A1, c1, rfl, hS1, hyr, hg⟩ := (HRA0.out.next HB0.out).at_ hx
          have HG := Lib.hid hg
          have HY := Lib.hid hyr
          have hba : ba < wr.heap.size := hS1.2
          have hv1 := nodesP_in y (d := d + 1) (by have := HDD.out; omega)
          obtain ⟨v, hv⟩ : ∃ v, nodesP y (d + 1) = v := ⟨_, rfl⟩
          have HFN := Lib.hid (show (x.kids.toList.drop (k + 1)).foldl (ndStep (d + 1)) (n + v) = q by rw [← HFK.out, hdr, List.foldl_cons, ndStep, if_pos h6, hv])
          rw [hv] at hv1
          obtain ⟨hva, hvb⟩ := hv1
          have HVB := Lib.hid hvb
          have hvc : v ≤ 30000 := by have := HD1.out; omega
          have hd1 := HD1.out
          have hd2 := HDD.out
          have HNV := Lib.hid hv
          have HI1 := Lib.hid (HI.out y (by have := HSZ.out; omega) (d + 1) A1 c1 wr (by omega) (by omega) HY.out)
          clear hx hye hg hyr hS1 hdr hvb hv
          go_wp2_with (first
            | ((with_reducible refine ex_load ba (oa + k * 4) y (.slice A1 y.kids.toList.length c1) ?hx HG.out ?_); (case hx => rfl)))
          refine HI1.out.mono ?_
          rintro e w5 ⟨he, hb⟩
          rw [HNV.out] at he
          subst he
          have HB5 := Lib.hid (HB0.out.trans (hb.mono HB0.out.size))
          clear hb r1
          go_wp2_with fail
          exact ⟨⟨k + 1, n + v, by omega, by go_num, rfl, by omega, by have := HVB.out; omega, HFN.out, HB5.out⟩, by simp [intOf]; omega⟩
        · have hqn : n = q := by rw [← HFK.out, nd_stay _ _ _ h6]
          subst hqn
          clear HFK
          go_wp2_with fail
          go_ret
          exact ⟨rfl, HB.out.trans (HB0.out.mono HB.out.size)⟩
      · have hqn : n = q := by rw [← HFK.out, List.drop_eq_nil_of_le (by omega)]; rfl
        subst hqn
        clear HFK
        go_wp2_with fail
        go_ret
        exact ⟨rfl, HB.out.trans (HB0.out.mono HB.out.size)⟩

theorem ndRl_le (l : List Rl) (k : Nat) : 0 ≤ (l.take k).foldl ndRl 0 ∧ (l.take k).foldl ndRl 0 ≤ 25000 * (k : Int) := by
  induction k with
  | zero => simp
  | succ k ih =>
    by_cases h : k < l.length
    · rw [List.take_succ_eq_append_getElem h, List.foldl_append, List.foldl_cons, List.foldl_nil, ndRl]
      have := nodesP_in l[k].when_ (d := 1) (by decide)
      omega
    · rw [List.take_of_length_le (by omega)]
      rw [List.take_of_length_le (by omega)] at ih
      omega
set_option maxRecDepth 100000 in
set_option maxHeartbeats 2000000 in
theorem few_any (l : List Rl) (v : Value) (w : World) (hrd : RdRl w v l) : Calls Tryd.prog 18 #[v] w (BoolB (fewP l) w) := by
  obtain ⟨A, c, rfl, hc, hml⟩ := hrd.form
  unfold maxLen at hml
  have HRD := Lib.hid hrd
  clear hrd hc
  obtain ⟨q, hq⟩ : ∃ q, fewP l = q := ⟨_, rfl⟩
  rw [hq]
  have HQ := Lib.hid hq
  clear hq
  by_cases hll : 40 < (l.length : Int)
  · have hqf : q = false := by rw [← HQ.out, fewP, decide_eq_false (by omega)]; rfl
    subst hqf
    go_enter Tryd.func18, Tryd.ntmps18
    go_wp2_with fail
    go_ret
    exact ⟨rfl, Below.refl _ _⟩
  have HLL := Lib.hid hll
  go_enter Tryd.func18, Tryd.ntmps18
  go_wp2_with fail
  clear hll
  go_loopw [3, 4] (fun t3 t4 wr => ∃ k : Nat, k ≤ l.length ∧ t4 = .int .i64 k ∧ t3 = .int .i64 ((l.take k).foldl ndRl 0) ∧ Below w.heap.size w wr) (fun _ t4 _ => l.length - (intOf t4).toNat)
  case atStart => exact ⟨0, by omega, rfl, rfl, Below.refl _ _⟩
  case round =>
    obtain ⟨k, hk, rfl, rfl, hb⟩ := hrel
    have HB := Lib.hid hb
    clear hb
    obtain ⟨n1, n2⟩ := ndRl_le l k
    by_cases hlt : k < l.length
    · have hx : l[k]? = some l[k] := List.getElem?_eq_getElem hlt
      have htk := List.take_succ_eq_append_getElem hlt
      obtain ⟨x, hxe⟩ : ∃ x, l[k] = x := ⟨_, rfl⟩
      rw [hxe] at hx htk
      obtain ⟨b, off, A1, c1, rfl, hbl, hyr, hg⟩ := (HRD.out.next HB.out).at_ hx
      have hv := nodesP_in x.when_ (d := 1) (by decide)
      obtain ⟨n, hn⟩ : ∃ n, (l.take k).foldl ndRl 0 = n := ⟨_, rfl⟩
      have hnx : (l.take (k + 1)).foldl ndRl 0 = n + nodesP x.when_ 1 := by rw [htk, List.foldl_append, hn]; rfl
      rw [hn] at n1 n2 ⊢
      obtain ⟨v, hvv⟩ : ∃ v, nodesP x.when_ 1 = v := ⟨_, rfl⟩
      have HV := Lib.hid hvv
      rw [hvv] at hv hnx
      have HNX := Lib.hid hnx
      have HG1 := Lib.hid (show _ from rangeAt_of4 (hg 1 _ rfl) (hg 2 _ rfl) (hg 3 _ rfl) (hg 4 _ rfl))
      have HY := Lib.hid hyr
      have hn3 : n ≤ 1000000 := by have := HLL.out; omega
      have hv3 : v ≤ 30000 := by omega
      have hv0 : 1 ≤ v := hv.1
      have HC := Lib.hid (nodes_any _ x.when_ (Nat.le_refl _) 1 A1 c1 _ (by decide) (by decide) HY.out)
      clear hx hxe htk hg hyr hn hvv hv hnx n2
      go_wp2_with (first
        | ((with_reducible refine ex_load b (off + k * 5 + 1) x.when_ (.slice A1 x.when_.kids.toList.length c1) ?hx HG1.out ?_); (case hx => rfl)))
      refine HC.out.mono ?_
      rintro e w5 ⟨he, hb⟩
      rw [HV.out] at he
      subst he
      have HB5 := Lib.hid (HB.out.trans (hb.mono HB.out.size))
      clear hb
      go_wp2_with fail
      exact ⟨⟨k + 1, by omega, by go_num, by rw [HNX.out], HB5.out⟩, by simp [intOf]; omega⟩
    · have hkl : k = l.length := by omega
      subst hkl
      rw [List.take_length] at n1 n2 ⊢
      obtain ⟨n, hn⟩ : ∃ n, l.foldl ndRl 0 = n := ⟨_, rfl⟩
      have hqe : decide (n ≤ 600) = q := by rw [← HQ.out, fewP, decide_eq_true (p := (l.length : Int) ≤ 40) HLL.out, Bool.true_and, hn]
      rw [hn] at n1 n2 ⊢
      subst hqe
      clear hn HQ n2
      go_wp2_with fail
      go_ret
      exact ⟨rfl, HB.out⟩

theorem rb_both {fn : Func} (h : fn.results = #[.cell 2 24, .tmp 3]) (tmps : Array Value) (W : World) (g : Nat) {x : Ex} {sv : Value} {a : Value} (hp : tmps.getD 2 undef = .pointer (some ⟨g, 0, none⟩)) (hq : tmps.getD 3 undef = a) {t : TypeId} {fr : Nat × Nat} (hg : W.heap[g]? = some (.cells #[.int .i64 x.op, .int .i64 x.n, .string (str x.name), sv] t fr)) :
    (results fn tmps).run Tryd.prog W = .ok (.tuple #[.agg #[.int .i64 x.op, .int .i64 x.n, .string (str x.name), sv], a]) W := by
  have hp' : tmps[2]?.getD undef = .pointer (some ⟨g, 0, none⟩) := by simpa using hp
  have hq' : tmps[3]?.getD undef = a := by simpa using hq
  obtain ⟨e0, e1, e2, e3⟩ := rangeAt4 (show W.rangeAt g 0 (exCells x sv) from rangeAt_block hg)
  rw [Nat.zero_add] at e1 e2 e3
  have u24 := Tryd.underlying24
  simp [results, h, hp', hq', asAddr, go_sem, e0, e1, e2, e3]
def BothPost (r : Ex × Int × Int) (w : World) (e : Ending) (w' : World) : Prop :=
  ∃ A c, e = .returned (.tuple #[.agg #[.int .i64 r.1.op, .int .i64 r.1.n, .string (str r.1.name), .slice A r.1.kids.toList.length c], .int .i64 r.2.1]) ∧ RdFo w' (Iv 0 w'.heap.size) (.slice A r.1.kids.toList.length c) r.1.kids ∧ Below w.heap.size w w'
set_option maxRecDepth 100000 in
set_option maxHeartbeats 2000000 in
theorem both_any (s : ByteArray) (w : World) (hs : s.size ≤ 9223372036854775807) : Calls Tryd.prog 25 #[.string s] w (BothPost (parseX (bts s)) w) := by
  obtain ⟨r, hr⟩ : ∃ r, parseX (bts s) = r := ⟨_, rfl⟩
  rw [hr]
  have HR := Lib.hid hr
  clear hr
  have HCS : Hid ((#[.int .i64 0, .int .i64 0, .string ⟨#[]⟩, .slice none 0 0] : Array Value).size = 4) := Lib.hid rfl
  have hR1 := heap_alloc_last w (.cells #[.int .i64 0, .int .i64 0, .string ⟨#[]⟩, .slice none 0 0] 24)
  have hB := bel_alloc (ob := .cells #[.int .i64 0, .int .i64 0, .string ⟨#[]⟩, .slice none 0 0] 24) (Below.refl w.heap.size w)
  go_enter Tryd.func25, Tryd.ntmps25
  go_wp2_with fail
  refine (parseX_any s _ hs).mono ?_
  rintro e w1 ⟨A, c, he, hrd, hb⟩
  rw [HR.out] at he hrd
  subst he
  obtain ⟨x, er, off⟩ := r
  have hb1 := hb.block w.heap.size (by rw [World.size_alloc]; omega)
  have hres := hb1.trans hR1
  have hB1 := bel_call hB hb
  have hN1 : w.heap.size < w1.heap.size := (Array.getElem?_eq_some_iff.1 hres).1
  rw [World.size_alloc] at hrd
  have hrd1 : RdFo w1 (Iv (w.heap.size + 1) w1.heap.size) (.slice A x.kids.toList.length c) x.kids := hrd
  clear hb hb1 hB hR1 hrd
  go_upto_region 2 with fail
  have hb2 := (Below.refl w1.heap.size w1).alloc (Nat.le_refl _) (.cells #[.int .i64 x.op, .int .i64 x.n, .string (str x.name), .slice A x.kids.toList.length c] 24)
  have hc2 := heap_alloc_last w1 (.cells #[.int .i64 x.op, .int .i64 x.n, .string (str x.name), .slice A x.kids.toList.length c] 24)
  obtain ⟨W2, hW2⟩ : ∃ W, w1.alloc (.cells #[.int .i64 x.op, .int .i64 x.n, .string (str x.name), .slice A x.kids.toList.length c] 24) = W := ⟨_, rfl⟩
  rw [hW2] at hb2 hc2 ⊢
  have HRES := Lib.hid ((hb2.block _ hN1).trans hres)
  have HG := Lib.hid (show W2.rangeAt w1.heap.size 0 (exCells x (.slice A x.kids.toList.length c)) from rangeAt_block hc2)
  have HB2 := Lib.hid (bel_call hB1 hb2)
  have HX2 := Lib.hid (hrd1.next hb2)
  have HN1 := Lib.hid hN1
  clear hb2 hc2 hW2 hres hB1 hrd1 hN1
  go_wp2_with (first
    | ((with_reducible refine ex_load w1.heap.size 0 x (.slice A x.kids.toList.length c) ?hx HG.out ?_); (case hx => rfl))
    | ((with_reducible refine ex_put w.heap.size x (.slice A x.kids.toList.length c) rfl ?hx ?hy HRES.out HCS ?_); (case hx => rfl); (case hy => rfl)))
  have hfin : (W2.setRow w.heap.size #[.int .i64 x.op, .int .i64 x.n, .string (str x.name), .slice A x.kids.toList.length c]).heap[w.heap.size]? = some (.cells #[.int .i64 x.op, .int .i64 x.n, .string (str x.name), .slice A x.kids.toList.length c] 24 (0, 0)) := setRow_heap _ _ _ _ _ _ HRES.out
  have hrf := (HX2.out.setRow (g := w.heap.size) (fun b hb => by have := hb.1; omega) #[.int .i64 x.op, .int .i64 x.n, .string (str x.name), .slice A x.kids.toList.length c]).more (S' := Iv 0 W2.heap.size) fun b hb => ⟨Nat.zero_le _, hb.2⟩
  have hbf := HB2.out.setRow (Nat.le_refl _) #[.int .i64 x.op, .int .i64 x.n, .string (str x.name), .slice A x.kids.toList.length c]
  refine bodyPost_ret (rb_both Tryd.results25 _ _ w.heap.size rfl rfl hfin) rfl ⟨A, c, rfl, ?_, hbf⟩
  rw [show (W2.setRow w.heap.size #[.int .i64 x.op, .int .i64 x.n, .string (str x.name), .slice A x.kids.toList.length c]).heap.size = W2.heap.size by simp]
  exact hrf

end Go.Proofs.YtkalkglllgebkaaDoor
