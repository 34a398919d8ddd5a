/-
  The parser's methods read what rd says; depth, whole (package ruletext).
-/
import Derived.Test.YtkalkglllgebkaaDoorRxH
import Derived.Test.YtkalkglllgebkaaDoorRxN
import Derived.Test.YtkalkglllgebkaaDoorRxO
namespace Saw
/-- The depth of what a loop has read so far. -/
def Lv.dep : Lv → Nat
  | .orL e => e.depth
  | .andL e => e.depth
  | .addL e => e.depth
  | .mulL e => e.depth
  | _ => 0
theorem depth_cmp (t : List UInt8) (a b : Ex) : (cmpE t a b).depth ≤ max a.depth b.depth + 2 := by
  unfold cmpE
  repeat' split
  all_goals (simp only [depth_one, depth_two]; omega)
theorem rd_depth {xs : List Lx} (he : LxEnds xs) : ∀ (n : Nat) (lv : Lv) (k : Nat) (e : Ex) (k' : Nat), k < xs.length → rd xs n lv k = some (.ok e k') → e.depth + k ≤ lv.dep + k' := by
  intro n
  induction n with
  | zero => intro lv k e k' _ h; cases h
  | succ n ih =>
    intro lv k e k' hk h
    have hin : ∀ (lv : Lv) (k : Nat) (e : Ex) (k' : Nat), k < xs.length → rd xs n lv k = some (.ok e k') → k + lv.step ≤ k' ∧ k' < xs.length := fun lv k e k' => rd_in he n lv k e k'
    cases lv with
    | expr =>
      rw [rd] at h
      obtain ⟨e1, k1, h1, h2⟩ := andThen_ok h
      have a := hin _ _ _ _ hk h1
      have b := ih _ _ _ _ hk h1
      have c := ih _ _ _ _ a.2 h2
      simp only [Lv.dep] at *
      omega
    | conj =>
      rw [rd] at h
      obtain ⟨e1, k1, h1, h2⟩ := andThen_ok h
      have a := hin _ _ _ _ hk h1
      have b := ih _ _ _ _ hk h1
      have c := ih _ _ _ _ a.2 h2
      simp only [Lv.dep] at *
      omega
    | sum =>
      rw [rd] at h
      obtain ⟨e1, k1, h1, h2⟩ := andThen_ok h
      have a := hin _ _ _ _ hk h1
      have b := ih _ _ _ _ hk h1
      have c := ih _ _ _ _ a.2 h2
      simp only [Lv.dep] at *
      omega
    | term =>
      rw [rd] at h
      obtain ⟨e1, k1, h1, h2⟩ := andThen_ok h
      have a := hin _ _ _ _ hk h1
      have b := ih _ _ _ _ hk h1
      have c := ih _ _ _ _ a.2 h2
      simp only [Lv.dep] at *
      omega
    | orL e0 =>
      rw [rd] at h
      split at h
      · rename_i hw
        obtain ⟨e1, k1, h1, h2⟩ := andThen_ok h
        have hk1 := isWd_in he hk hw
        have a := hin _ _ _ _ hk1 h1
        have b := ih _ _ _ _ hk1 h1
        have c := ih _ _ _ _ a.2 h2
        simp only [Lv.dep, depth_two, Lv.step] at *
        omega
      · injection h with h; injection h with h1 h2; subst h1 h2; simp only [Lv.dep]; omega
    | andL e0 =>
      rw [rd] at h
      split at h
      · rename_i hw
        obtain ⟨e1, k1, h1, h2⟩ := andThen_ok h
        have hk1 := isWd_in he hk hw
        have a := hin _ _ _ _ hk1 h1
        have b := ih _ _ _ _ hk1 h1
        have c := ih _ _ _ _ a.2 h2
        simp only [Lv.dep, depth_two, Lv.step] at *
        omega
      · injection h with h; injection h with h1 h2; subst h1 h2; simp only [Lv.dep]; omega
    | mulL e0 =>
      rw [rd] at h
      split at h
      · rename_i hw
        obtain ⟨e1, k1, h1, h2⟩ := andThen_ok h
        have hk1 := isMk_in he hk hw
        have a := hin _ _ _ _ hk1 h1
        have b := ih _ _ _ _ hk1 h1
        have c := ih _ _ _ _ a.2 h2
        simp only [Lv.dep, depth_two, Lv.step] at *
        omega
      · injection h with h; injection h with h1 h2; subst h1 h2; simp only [Lv.dep]; omega
    | addL e0 =>
      rw [rd] at h
      split at h
      · rename_i hw
        obtain ⟨e1, k1, h1, h2⟩ := andThen_ok h
        have hk1 := isMk_in he hk hw
        have a := hin _ _ _ _ hk1 h1
        have b := ih _ _ _ _ hk1 h1
        have c := ih _ _ _ _ a.2 h2
        simp only [Lv.dep, depth_two, Lv.step] at *
        omega
      · split at h
        · rename_i _ hw
          obtain ⟨e1, k1, h1, h2⟩ := andThen_ok h
          have hk1 := isMk_in he hk hw
          have a := hin _ _ _ _ hk1 h1
          have b := ih _ _ _ _ hk1 h1
          have c := ih _ _ _ _ a.2 h2
          simp only [Lv.dep, depth_two, Lv.step] at *
          omega
        · injection h with h; injection h with h1 h2; subst h1 h2; simp only [Lv.dep]; omega
    | neg =>
      rw [rd] at h
      split at h
      · rename_i hw
        obtain ⟨e1, k1, h1, h2⟩ := andThen_ok h
        have hk1 := isWd_in he hk hw
        have b := ih _ _ _ _ hk1 h1
        injection h2 with h2; injection h2 with h3 h4; subst h3 h4
        simp only [Lv.dep, depth_one] at *
        omega
      · have := ih .comp _ _ _ hk h
        simp only [Lv.dep] at *
        omega
    | comp =>
      rw [rd] at h
      obtain ⟨e1, k1, h1, h2⟩ := andThen_ok h
      have a := hin _ _ _ _ hk h1
      have b := ih _ _ _ _ hk h1
      split at h2
      · rename_i hw
        have hk1 : k1 + 1 < xs.length := lxEnds_next he a.2 (by rw [hw.1]; decide)
        obtain ⟨e2, k2, h3, h4⟩ := andThen_ok h2
        have c := hin _ _ _ _ hk1 h3
        have d := ih _ _ _ _ hk1 h3
        injection h4 with h4; injection h4 with h5 h6; subst h5 h6
        have q := depth_cmp (lxAt xs k1).text e1 e2
        simp only [Lv.dep, Lv.step] at *
        omega
      · injection h2 with h2; injection h2 with h3 h4; subst h3 h4
        simp only [Lv.dep] at *
        omega
    | fact =>
      rw [rd] at h
      split at h
      · injection h with h; injection h with h1 h2; subst h1 h2; simp [Lv.dep, Ex.depth, Fo.depth]; omega
      · split at h
        · split at h
          · injection h with h; injection h with h1 h2; subst h1 h2; simp [Lv.dep, Ex.depth, Fo.depth]; omega
          · injection h with h; cases h
        · split at h
          · split at h
            · injection h with h; injection h with h1 h2; subst h1 h2; simp [Lv.dep, Ex.depth, Fo.depth]; omega
            · injection h with h; cases h
          · split at h
            · rename_i _ _ _ hw
              have hk1 := isMk_in he hk hw
              obtain ⟨e1, k1, h1, h2⟩ := andThen_ok h
              have b := ih _ _ _ _ hk1 h1
              split at h2
              · injection h2 with h2; injection h2 with h3 h4; subst h3 h4
                simp only [Lv.dep] at *
                omega
              · injection h2 with h2; cases h2
            · injection h with h; cases h
/-- The depth of the deepest. -/
def maxDep (l : List Ex) : Nat := l.foldl (fun n x => max n x.depth) 0
theorem maxDep_snoc (l : List Ex) (x : Ex) : maxDep (l ++ [x]) = max (maxDep l) x.depth := by simp [maxDep]
theorem foldl_dep : ∀ (f : Fo) (n : Nat), f.toList.foldl (fun n x => max n x.depth) n = max n f.depth
  | .nil, n => by simp [Fo.toList, Fo.depth]
  | .cons o a m k r, n => by
    rw [Fo.toList, List.foldl_cons, foldl_dep r, Fo.depth]
    simp only [Ex.depth]
    omega
theorem maxDep_all (f : Fo) : maxDep f.toList = f.depth := by rw [maxDep, foldl_dep]; omega
theorem maxDep_take (l : List Ex) (i : Nat) (x : Ex) (h : l[i]? = some x) : maxDep (l.take (i + 1)) = max (maxDep (l.take i)) x.depth := by
  rw [List.take_add_one, h]
  exact maxDep_snoc _ _
theorem foldl_dep_le (l : List Ex) (n m : Nat) (hn : n ≤ m) (h : ∀ x ∈ l, x.depth ≤ m) : l.foldl (fun n x => max n x.depth) n ≤ m := by
  induction l generalizing n with
  | nil => exact hn
  | cons x r ih =>
    rw [List.foldl_cons]
    have := h x (by simp)
    exact ih _ (by omega) (fun y hy => h y (by simp [hy]))
theorem maxDep_le {f : Fo} (i : Nat) : maxDep (f.toList.take i) ≤ f.depth := foldl_dep_le _ _ _ (by omega) fun _ hx => depth_mem (List.mem_of_mem_take hx)
theorem kids_size {x y : Ex} (h : y ∈ x.kids.toList) : y.size < x.size := by have := size_mem h; simp only [Ex.size] at *; omega
theorem kids_depth {x y : Ex} (h : y ∈ x.kids.toList) : y.depth < x.depth := by have := depth_mem h; simp only [Ex.depth] at *; omega
end Saw
namespace Go.Proofs.YtkalkglllgebkaaDoor
open Go.RowKit Saw

theorem RdFo.upto {w : World} {lo B : Nat} {v : Value} {f : Fo} (h : RdFo w (Iv lo B) v f) (hB : B ≤ w.heap.size) : RdFo w (Iv lo w.heap.size) v f := h.more fun _ hb => ⟨hb.1, Nat.lt_of_lt_of_le hb.2 hB⟩
theorem RdFo.allocN {w : World} {lo : Nat} {v : Value} {f : Fo} (h : RdFo w (Iv lo w.heap.size) v f) (o : Obj) : RdFo (w.alloc o) (Iv lo (w.alloc o).heap.size) v f := h.next ((Below.refl _ _).alloc (Nat.le_refl _) o)
theorem rd_calls {xs : List Lx} (hx : XsOk xs) : ∀ n, RdCalls xs n := by
  intro n
  induction n using Nat.strongRecOn with
  | _ n ih =>
    intro lvl f hf k r hrd hk w rb lv hr hl
    cases n with
    | zero => rw [rd] at hrd; cases hrd
    | succ n =>
      have IH : ∀ m, m ≤ n → RdCalls xs m := fun m hm => ih m (by omega)
      cases lvl <;> simp only [fnOf, Option.some.injEq, reduceCtorEq] at hf <;> subst hf
      · exact expr_step hx.1 hx.2.1 IH k r hrd hk w rb lv hr hl
      · exact conj_step hx.1 hx.2.1 IH k r hrd hk w rb lv hr hl
      · exact neg_step hx.1 hx.2.1 IH k r hrd hk w rb lv hr hl
      · exact comp_step hx IH k r hrd hk w rb lv hr hl
      · exact sum_step hx.1 hx.2.1 IH k r hrd hk w rb lv hr hl
      · exact term_step hx.1 hx.2.1 IH k r hrd hk w rb lv hr hl
      · exact fact_step hx IH k r hrd hk w rb lv hr hl

set_option maxRecDepth 100000 in
set_option maxHeartbeats 1000000 in
theorem depth_any : ∀ (N : Nat) (x : Ex), x.size ≤ N → x.depth ≤ 1000000000 → ∀ (A : Option Addr) (c : Nat) (w : World), RdFo w (Iv 0 w.heap.size) (.slice A x.kids.toList.length c) x.kids →
    Calls Tryd.prog 63 #[.agg #[.int .i64 x.op, .int .i64 x.n, .string (str x.name), .slice A x.kids.toList.length c]] w (IntB x.depth w) := by
  intro N
  induction N with
  | zero => intro x h; simp only [Ex.size] at h; omega
  | succ N ih =>
    intro x hN hD A c w hrd
    obtain ⟨_, _, _, hc, hml⟩ := hrd.form
    clear hc
    unfold maxLen at hml
    have HRD := Lib.hid hrd
    have HI := Lib.hid ih
    clear ih hrd
    have HMX := Lib.hid (fun i => maxDep_le (f := x.kids) i)
    have hdk : x.kids.depth + 1 = x.depth := rfl
    go_enter Tryd.func63, Tryd.ntmps63
    go_wp2_with fail
    go_loopw [3, 9] (fun nv i wr => ∃ k : Nat, k ≤ x.kids.toList.length ∧ i = .int .i64 k ∧ nv = .int .i64 (maxDep (x.kids.toList.take k) : Nat) ∧ Below w.heap.size w wr) (fun _ i _ => x.kids.toList.length - (intOf i).toNat)
    case atStart => exact ⟨0, by omega, rfl, rfl, (Below.refl _ _).alloc (Nat.le_refl _) _⟩
    case round =>
      obtain ⟨k, hk, rfl, rfl, hb⟩ := hrel
      have HB := Lib.hid hb
      have hsz := hb.size
      clear hb
      have hmk := HMX.out k
      by_cases hlt : k < x.kids.toList.length
      · have hx : x.kids.toList[k]? = some x.kids.toList[k] := List.getElem?_eq_getElem hlt
        obtain ⟨y, hye⟩ : ∃ y, x.kids.toList[k] = y := ⟨_, rfl⟩
        rw [hye] at hx
        have hym := List.mem_of_getElem? hx
        have HSZ := Lib.hid (kids_size hym)
        have hyd := kids_depth hym
        have HTK := Lib.hid (maxDep_take _ _ _ hx)
        have hRD := HRD.out.below HB.out (fun b hb => hb.2)
        obtain ⟨b, off, A1, c1, rfl, hS, hyr, hg⟩ := hRD.at_ hx
        have HG := Lib.hid hg
        have HY := Lib.hid ((hyr.upto hsz).allocN (.cells #[.int .i64 y.op, .int .i64 y.n, .string (str y.name), .slice A1 y.kids.toList.length c1] 24))
        clear hx hye hym hRD hyr hg
        go_wp2_with (first
          | ((with_reducible refine ex_load b (off + k * 4) y (.slice A1 y.kids.toList.length c1) ?hx HG.out ?_); (case hx => rfl)))
        refine (HI.out y (by have := HSZ.out; omega) (by omega) A1 c1 _ HY.out).mono ?_
        rintro e w2 ⟨he, hb2⟩
        subst he
        have HB2 := Lib.hid ((HB.out.alloc hsz _).trans (hb2.mono (by rw [World.size_alloc]; omega)))
        clear hb2
        go_wp2_with fail
        refine ⟨⟨k + 1, by omega, by go_num, ?_, HB2.out⟩, by simp [intOf]; omega⟩
        rw [HTK.out]
        congr 1
        omega
      · have hke : k = x.kids.toList.length := by omega
        have HE := Lib.hid (show maxDep (x.kids.toList.take k) = x.kids.depth by rw [hke, List.take_length, maxDep_all])
        clear hke
        go_wp2_with fail
        go_ret
        exact ⟨ret_int (by rw [HE.out, ← hdk]; rfl), HB.out⟩

end Go.Proofs.YtkalkglllgebkaaDoor
