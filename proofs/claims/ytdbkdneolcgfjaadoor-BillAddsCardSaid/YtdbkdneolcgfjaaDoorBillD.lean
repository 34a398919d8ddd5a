/-
  Rows of the call's own; the contracts of the law's tiers and items, of bill.sums and Total, of sawmillref50.sum and Total.
-/
import Derived.Test.YtdbkdneolcgfjaaDoorBillC
import Derived.Deep.AppendLies
namespace Go.Proofs.YtdbkdneolcgfjaaDoor
open Go.RowKit Saw Go.Sort


def OwnI (w : World) (base : Nat) (v : Value) (l : List Int) : Prop := w.ownsRow base 3 1 v l.length (ints l)
theorem info_I : (Tryd.prog.info? 3).map (fun i => (i.zero, i.size, i.bytes)) = some (some (.int .i64 0), 1, 8) := by kernel_rfl
theorem append_I {ops : Array Oper} {rest : List Oper} {o : Oper} {a : Act} {Q : Exit → Act → World → Prop} (W : World) (hgd : o.guard = none) (s x : Operand)
    (ho : o.op = .call { callee := .builtin .append, args := #[s, x], argTypes := #[51, 51] })
    (base : Nat) (v : Value) (l : List Int) (hs : a.eval s = v) (hown : OwnI W base v l) (hl : l.length ≤ 100000) (hbase : base ≤ W.heap.size)
    (y : Int) (hx : a.eval x = .slice (some ⟨W.heap.size, 0, none⟩) 1 1)
    (h : ∀ v' w', OwnI w' base v' (l ++ [y]) → W.grownBy w' v.ownBlock → wpList Tryd.prog ops Q rest (a.put o.dst v') w') :
    wpList Tryd.prog ops Q (o :: rest) a (W.alloc (.cells #[.int .i64 y] 3)) := by
  obtain ⟨i0, hi, hz0, hz1, hz2⟩ := info_parts info_I
  refine wpList_append_own _ hgd s x 51 ho base 3 i0 _ 1 8 Tryd.underlying51 hi hz0 hz1 hz2 rfl (by decide) v l.length (ints l) hs (World.ownsRow.alloc hown _) ⟨W.heap.size, 0, none⟩ 1 1
    [.int .i64 y] hx rfl (World.news_of_block (cs := #[.int .i64 y]) (t := 3) (fr := (0, 0)) (heap_alloc_last W _)) (by simp [Value.oneCell']) (by simp only [maxLen]; omega) (by omega) (by rw [World.size_alloc]; omega) ?_
  intro v' w' hown' hg _
  refine h v' w' ?_ ?_
  · unfold OwnI
    rw [List.length_append]
    have e : ints (l ++ [y]) = ints l ++ [.int .i64 y] := by simp [ints]
    rw [e]
    exact hown'
  · exact ⟨hg.os, hg.tape, hg.output, by have := hg.size; rw [World.size_alloc] at this; omega, fun i hi hne => (hg.block i (by rw [World.size_alloc]; omega) hne).trans (Below.heap_alloc W _ i hi)⟩


def OwnTi (w : World) (base : Nat) (v : Value) (l : List Ti) : Prop := w.ownsRow base 65 2 v l.length (l.flatMap tiCells)
theorem info_Ti : (Tryd.prog.info? 65).map (fun i => (i.zero, i.size, i.bytes)) = some (some (.agg #[.int .i64 0, .int .i64 0]), 2, 16) := by kernel_rfl
theorem append_Ti {ops : Array Oper} {rest : List Oper} {o : Oper} {a : Act} {Q : Exit → Act → World → Prop} (W : World) (hgd : o.guard = none) (s x : Operand)
    (ho : o.op = .call { callee := .builtin .append, args := #[s, x], argTypes := #[39, 39] })
    (base : Nat) (v : Value) (l : List Ti) (hs : a.eval s = v) (hown : OwnTi W base v l) (hl : l.length ≤ 100000) (hbase : base ≤ W.heap.size)
    (y : Ti) (hx : a.eval x = .slice (some ⟨W.heap.size, 0, none⟩) 1 1)
    (h : ∀ v' w', OwnTi w' base v' (l ++ [y]) → W.grownBy w' v.ownBlock → wpList Tryd.prog ops Q rest (a.put o.dst v') w') :
    wpList Tryd.prog ops Q (o :: rest) a (W.alloc (.cells #[.int .i64 y.lo, .int .i64 y.off] 65)) := by
  obtain ⟨i0, hi, hz0, hz1, hz2⟩ := info_parts info_Ti
  refine wpList_append_own _ hgd s x 39 ho base 65 i0 _ 2 16 Tryd.underlying39 hi hz0 hz1 hz2 rfl (by decide) v l.length (l.flatMap tiCells) hs (World.ownsRow.alloc hown _) ⟨W.heap.size, 0, none⟩ 1 1
    [.int .i64 y.lo, .int .i64 y.off] hx rfl (World.news_of_block (cs := #[.int .i64 y.lo, .int .i64 y.off]) (t := 65) (fr := (0, 0)) (heap_alloc_last W _)) (by simp [Value.oneCell']) (by simp only [maxLen]; omega) (by omega) (by rw [World.size_alloc]; omega) ?_
  intro v' w' hown' hg _
  refine h v' w' ?_ ?_
  · unfold OwnTi
    rw [List.length_append]
    have e : (l ++ [y]).flatMap tiCells = l.flatMap tiCells ++ [.int .i64 y.lo, .int .i64 y.off] := by simp [tiCells, itCells]
    rw [e]
    exact hown'
  · exact ⟨hg.os, hg.tape, hg.output, by have := hg.size; rw [World.size_alloc] at this; omega, fun i hi hne => (hg.block i (by rw [World.size_alloc]; omega) hne).trans (Below.heap_alloc W _ i hi)⟩


def OwnIt (w : World) (base : Nat) (v : Value) (l : List It) : Prop := w.ownsRow base 35 4 v l.length (l.flatMap itCells)
theorem info_It : (Tryd.prog.info? 35).map (fun i => (i.zero, i.size, i.bytes)) = some (some (.agg #[.int .i64 0, .int .i64 0, .int .i64 0, .int .i64 0]), 4, 32) := by kernel_rfl
theorem append_It {ops : Array Oper} {rest : List Oper} {o : Oper} {a : Act} {Q : Exit → Act → World → Prop} (W : World) (hgd : o.guard = none) (s x : Operand)
    (ho : o.op = .call { callee := .builtin .append, args := #[s, x], argTypes := #[44, 44] })
    (base : Nat) (v : Value) (l : List It) (hs : a.eval s = v) (hown : OwnIt W base v l) (hl : l.length ≤ 100000) (hbase : base ≤ W.heap.size)
    (y : It) (hx : a.eval x = .slice (some ⟨W.heap.size, 0, none⟩) 1 1)
    (h : ∀ v' w', OwnIt w' base v' (l ++ [y]) → W.grownBy w' v.ownBlock → wpList Tryd.prog ops Q rest (a.put o.dst v') w') :
    wpList Tryd.prog ops Q (o :: rest) a (W.alloc (.cells #[.int .i64 y.product, .int .i64 y.length, .int .i64 y.count, .int .i64 y.price] 35)) := by
  obtain ⟨i0, hi, hz0, hz1, hz2⟩ := info_parts info_It
  refine wpList_append_own _ hgd s x 44 ho base 35 i0 _ 4 32 Tryd.underlying44 hi hz0 hz1 hz2 rfl (by decide) v l.length (l.flatMap itCells) hs (World.ownsRow.alloc hown _) ⟨W.heap.size, 0, none⟩ 1 1
    [.int .i64 y.product, .int .i64 y.length, .int .i64 y.count, .int .i64 y.price] hx rfl (World.news_of_block (cs := #[.int .i64 y.product, .int .i64 y.length, .int .i64 y.count, .int .i64 y.price]) (t := 35) (fr := (0, 0)) (heap_alloc_last W _)) (by simp [Value.oneCell']) (by simp only [maxLen]; omega) (by omega) (by rw [World.size_alloc]; omega) ?_
  intro v' w' hown' hg _
  refine h v' w' ?_ ?_
  · unfold OwnIt
    rw [List.length_append]
    have e : (l ++ [y]).flatMap itCells = l.flatMap itCells ++ [.int .i64 y.product, .int .i64 y.length, .int .i64 y.count, .int .i64 y.price] := by simp [tiCells, itCells]
    rw [e]
    exact hown'
  · exact ⟨hg.os, hg.tape, hg.output, by have := hg.size; rw [World.size_alloc] at this; omega, fun i hi hne => (hg.block i (by rw [World.size_alloc]; omega) hne).trans (Below.heap_alloc W _ i hi)⟩


set_option maxRecDepth 100000 in
set_option maxHeartbeats 400000 in
theorem tiers_any (l : List Ti) (v : Value) (w : World) (hrd : RdTi w w.heap.size v l) (hll : l.length ≤ 10000) :
    Calls Tryd.prog 16 #[v] w fun e w' => ∃ v', e = .returned v' ∧ OwnTi w' w.heap.size v' l ∧ Below w.heap.size w w' := by
  obtain ⟨A, c, rfl, hc, hml⟩ := hrd.form
  unfold maxLen at hml
  have HRD := Lib.hid hrd
  clear hrd
  go_enter Tryd.func16, Tryd.ntmps16
  go_wp2_with fail
  go_loopw [3, 4] (fun ov i wr => ∃ k : Nat, k ≤ l.length ∧ i = .int .i64 k ∧ OwnTi wr w.heap.size ov (l.take k) ∧ Below w.heap.size w wr) (fun _ i _ => l.length - (intOf i).toNat)
  case atStart => exact ⟨0, by omega, rfl, World.ownsRow_nil _ _ _ _, Below.refl _ _⟩
  case round =>
    obtain ⟨k, hk, rfl, hown, hb⟩ := hrel
    have HB := Lib.hid hb
    have hsz := hb.size
    have HOWN := Lib.hid hown
    clear hown
    by_cases hlt : k < l.length
    · have hx : l[k]? = some l[k] := List.getElem?_eq_getElem hlt
      obtain ⟨t, hte⟩ : ∃ t, l[k] = t := ⟨_, rfl⟩
      rw [hte] at hx
      obtain ⟨b, off, rfl, hbl, q0, q1⟩ := RdTi.at_ (Rd.below HRD.out hb : RdTi _ _ _ _) hx
      have HT := Lib.hid (show l.take (k + 1) = l.take k ++ [t] by rw [List.take_add_one, hx]; rfl)
      have hlk : (l.take k).length ≤ 100000 := by rw [List.length_take]; omega
      clear hb hx hte
      go_wp2_with (at_builtin; refine append_Ti wr rfl (.tmp 11) (.tmp 16) rfl w.heap.size u3 (l.take k) rfl HOWN.out hlk hsz t rfl ?_; intro v2 w2 hown2 hg2; have HOWN2 := Lib.hid hown2; have HG2 := Lib.hid hg2; clear hown2 hg2)
      exact ⟨⟨k + 1, by omega, by go_num, by rw [HT.out]; exact HOWN2.out, HB.out.grown HG2.out hsz (fun g hg => (HOWN.out.lt g hg).1)⟩, by simp [intOf]; omega⟩
    · have HT := Lib.hid (show l.take k = l from List.take_of_length_le (by omega))
      clear hb
      go_wp2_with fail
      go_ret
      exact ⟨_, rfl, by have h9 := HOWN.out; rw [HT.out] at h9; exact h9, HB.out⟩


set_option maxRecDepth 100000 in
set_option maxHeartbeats 400000 in
theorem items_any (l : List It) (v : Value) (w : World) (hrd : RdIt w w.heap.size v l) (hll : l.length ≤ 10000) :
    Calls Tryd.prog 19 #[v] w fun e w' => ∃ v', e = .returned v' ∧ OwnIt w' w.heap.size v' l ∧ Below w.heap.size w w' := by
  obtain ⟨A, c, rfl, hc, hml⟩ := hrd.form
  unfold maxLen at hml
  have HRD := Lib.hid hrd
  clear hrd
  go_enter Tryd.func19, Tryd.ntmps19
  go_wp2_with fail
  go_loopw [3, 4] (fun ov i wr => ∃ k : Nat, k ≤ l.length ∧ i = .int .i64 k ∧ OwnIt wr w.heap.size ov (l.take k) ∧ Below w.heap.size w wr) (fun _ i _ => l.length - (intOf i).toNat)
  case atStart => exact ⟨0, by omega, rfl, World.ownsRow_nil _ _ _ _, Below.refl _ _⟩
  case round =>
    obtain ⟨k, hk, rfl, hown, hb⟩ := hrel
    have HB := Lib.hid hb
    have hsz := hb.size
    have HOWN := Lib.hid hown
    clear hown
    by_cases hlt : k < l.length
    · have hx : l[k]? = some l[k] := List.getElem?_eq_getElem hlt
      obtain ⟨t, hte⟩ : ∃ t, l[k] = t := ⟨_, rfl⟩
      rw [hte] at hx
      obtain ⟨b, off, rfl, hbl, q0, q1, q2, q3⟩ := RdIt.at_ (Rd.below HRD.out hb : RdIt _ _ _ _) hx
      have HT := Lib.hid (show l.take (k + 1) = l.take k ++ [t] by rw [List.take_add_one, hx]; rfl)
      have hlk : (l.take k).length ≤ 100000 := by rw [List.length_take]; omega
      clear hb hx hte
      go_wp2_with (at_builtin; refine append_It wr rfl (.tmp 11) (.tmp 16) rfl w.heap.size u3 (l.take k) rfl HOWN.out hlk hsz t rfl ?_; intro v2 w2 hown2 hg2; have HOWN2 := Lib.hid hown2; have HG2 := Lib.hid hg2; clear hown2 hg2)
      exact ⟨⟨k + 1, by omega, by go_num, by rw [HT.out]; exact HOWN2.out, HB.out.grown HG2.out hsz (fun g hg => (HOWN.out.lt g hg).1)⟩, by simp [intOf]; omega⟩
    · have HT := Lib.hid (show l.take k = l from List.take_of_length_le (by omega))
      clear hb
      go_wp2_with fail
      go_ret
      exact ⟨_, rfl, by have h9 := HOWN.out; rw [HT.out] at h9; exact h9, HB.out⟩


theorem results_tmp4 {fn : Func} {t u v x : Tmp} (h : fn.results = #[.tmp t, .tmp u, .tmp v, .tmp x]) (tmps : Array Value) (P : Program) (w : World) :
    (results fn tmps).run P w = .ok (.tuple #[tmps.getD t undef, tmps.getD u undef, tmps.getD v undef, tmps.getD x undef]) w := by
  simp [results, h]
theorem owns_below {w w' : World} {base size n : Nat} {e : TypeId} {v : Value} {xs : List Value} (h : w.ownsRow base e size v n xs) (hb : Below w.heap.size w w') : w'.ownsRow base e size v n xs := by
  refine ⟨h.1, ?_⟩
  rcases h.2 with hn | ⟨g, cap, cur, hv, hbg, hgg, rest⟩
  · exact .inl hn
  · exact .inr ⟨g, cap, cur, hv, hbg, (hb.block g (Array.getElem?_eq_some_iff.1 hgg).1).trans hgg, rest⟩
theorem own_baseI {w : World} {base base' : Nat} {v : Value} {l : List Int} (h : OwnI w base v l) (hb : base' ≤ base) : OwnI w base' v l := by
  refine ⟨h.1, ?_⟩
  rcases h.2 with hn | ⟨g, cap, cur, rfl, hbg, hgg, rest⟩
  · exact .inl hn
  · exact .inr ⟨g, cap, cur, rfl, by omega, hgg, rest⟩
theorem amount_bd (c : List Pr) (i : It) : 0 ≤ (amountP c i).1 ∧ (amountP c i).1 ≤ 1500000000000 := by
  unfold amountP
  split
  · simp
  · unfold amountOk
    split
    · simp
    · split
      · simp
      · split
        · simp
        · rename_i h
          have vb := volume_bd (c.getD i.product.toNat Pr.zero) i.length
          have vb2 := mul_bd (a := volumeP (c.getD i.product.toNat Pr.zero) i.length) (b := i.count) (x := 7200000000) (y := 200) vb.1 vb.2 (by omega) (by omega)
          simp only [amtP]
          generalize volumeP (c.getD i.product.toNat Pr.zero) i.length * i.count = vv at vb2 ⊢
          have bm := mul_bd (a := vv % 1000000000) (b := i.price) (x := 1000000000) (y := 1000000000) (by omega) (by omega) (by omega) (by omega)
          have bd := mul_bd (a := vv / 1000000000) (b := i.price) (x := 1440) (y := 1000000000) (by omega) (by omega) (by omega) (by omega)
          generalize vv % 1000000000 * i.price = mp at bm ⊢
          generalize vv / 1000000000 * i.price = dp at bd ⊢
          omega
theorem sumL_step {c : List Pr} {l : List It} {k : Nat} {i : It} {acc : List Int} {n a e : Int} {R : List Int × Int × Int} (hi : l[k]? = some i) (ha : amountP c i = (a, e)) (h : sumL c (l.drop k) acc n = R) :
    (if e ≠ 0 then ([], 0, e) else sumL c (l.drop (k + 1)) (acc ++ [a]) (n + a)) = R := by
  obtain ⟨hk, hn⟩ := List.getElem?_eq_some_iff.1 hi
  rw [List.drop_eq_getElem_cons hk, hn, sumL, ha] at h
  exact h
def SumsPost (r : List Int × Int × Int × Int) (w : World) (e : Ending) (w' : World) : Prop := ∃ v, e = .returned (.tuple #[v, .int .i64 r.2.1, .int .i64 r.2.2.1, .int .i64 r.2.2.2]) ∧ OwnI w' w.heap.size v r.1 ∧ Below w.heap.size w w'
def SumPost (r : List Int × Int × Int) (w : World) (e : Ending) (w' : World) : Prop := ∃ v, e = .returned (.tuple #[v, .int .i64 r.2.1, .int .i64 r.2.2]) ∧ OwnI w' w.heap.size v r.1 ∧ Below w.heap.size w w'

theorem RdTi.more' {w : World} {B B' : Nat} {v : Value} {l : List Ti} (h : RdTi w B v l) (hB : B ≤ B') : RdTi w B' v l := Rd.more h hB


set_option maxRecDepth 100000 in
set_option maxHeartbeats 2000000 in
theorem sums_any (c : List Pr) (l : List It) (t : List Ti) (vc vl  vt: Value) (w : World) (hc : RdPr w w.heap.size vc c) (hnm : ∀ x ∈ c, x.name.length ≤ 1000000) (hl : RdIt w w.heap.size vl l) (ht : RdTi w w.heap.size vt t) :
    Calls Tryd.prog 30 #[vc, vl, vt] w (SumsPost (sumsP c l t) w) := by
  obtain ⟨Ac, cc, rfl, _, _⟩ := hc.form
  obtain ⟨A, cl, rfl, hcl, hml⟩ := hl.form
  obtain ⟨At, ct, rfl, _, _⟩ := ht.form
  obtain ⟨r, hr⟩ : ∃ r, sumsP c l t = r := ⟨_, rfl⟩
  rw [hr]
  unfold maxLen at hml
  unfold sumsP at hr
  by_cases h32 : 32 < l.length
  · have hrz : r = ([], 0, 0, 4) := by rw [← hr]; simp [sumP, h32]
    subst hrz
    clear hr hc hl ht
    go_enter Tryd.func30, Tryd.ntmps30
    go_wp2_with fail
    ((try simp only [Exit.inBlock, Exit.then]); refine bodyPost_ret (results_tmp4 rfl _ _ _) rfl ?_)
    exact ⟨_, rfl, World.ownsRow_nil _ _ _ _, Below.refl _ _⟩
  · obtain ⟨R, hR⟩ : ∃ R, sumL c l [] 0 = R := ⟨_, rfl⟩
    have hsp : sumP c l = R := by rw [sumP, if_neg h32, hR]
    rw [hsp] at hr
    have HR := Lib.hid hr
    have HS := Lib.hid hR
    have HC := Lib.hid hc
    have HNM := Lib.hid hnm
    have HL := Lib.hid hl
    have HT := Lib.hid ht
    clear hr hR hsp hc hnm hl ht
    go_enter Tryd.func30, Tryd.ntmps30
    go_wp2_with fail
    go_loopw [6, 7, 19] (fun av nv i wr => ∃ (k : Nat) (acc : List Int) (n : Int), k ≤ l.length ∧ i = .int .i64 k ∧ nv = .int .i64 n ∧ OwnI wr w.heap.size av acc ∧ acc.length = k ∧ 0 ≤ n ∧ n ≤ k * 1500000000000 ∧ sumL c (l.drop k) acc n = R ∧ Below w.heap.size w wr) (fun _ _ i _ => l.length - (intOf i).toNat)
    case atStart => exact ⟨0, [], 0, by omega, rfl, rfl, World.ownsRow_nil _ _ _ _, rfl, by omega, by omega, HS.out, Below.refl _ _⟩
    case round =>
      obtain ⟨k, acc, n, hk, rfl, rfl, hown, hacc, n0, n1, hs, hb⟩ := hrel
      have HB := Lib.hid hb
      have hsz := hb.size
      have HOWN := Lib.hid hown
      clear hown
      by_cases hlt : k < l.length
      · have hx : l[k]? = some l[k] := List.getElem?_eq_getElem hlt
        obtain ⟨i, hie⟩ : ∃ i, l[k] = i := ⟨_, rfl⟩
        rw [hie] at hx
        obtain ⟨b, off, rfl, hbl, q0, q1, q2, q3⟩ := RdIt.at_ (Rd.below HL.out hb : RdIt _ _ _ _) hx
        have ab := amount_bd c i
        obtain ⟨a, e, ha⟩ : ∃ a e, amountP c i = (a, e) := ⟨_, _, rfl⟩
        rw [ha] at ab
        obtain ⟨a0, a1⟩ := ab
        simp only at a0 a1
        have HST := Lib.hid (sumL_step hx ha hs)
        have HA := Lib.hid ha
        have hac : acc.length ≤ 100000 := by omega
        have n2 : n ≤ 100000000000000 := by omega
        clear hs hx hie ha
        go_wp2_with fail
        have HBR : Below wr.heap.size wr (wr.alloc (.cells #[.int .i64 i.product, .int .i64 i.length, .int .i64 i.count, .int .i64 i.price] 28)) := (Below.refl _ _).alloc (Nat.le_refl _) _
        have HBW : Below w.heap.size w (wr.alloc (.cells #[.int .i64 i.product, .int .i64 i.length, .int .i64 i.count, .int .i64 i.price] 28)) := HB.out.trans (HBR.mono hsz)
        have HBA := HBW
        refine (amount_any c _ i _ (HC.out.next HBA) HNM.out).mono ?_
        rintro e' w2 ⟨he, hb2⟩
        rw [HA.out] at he
        subst he
        have hb2' : Below w.heap.size w w2 := HBW.trans (hb2.mono HBW.size)
        have HB2 := Lib.hid hb2'
        have hsz2 := hb2'.size
        have HOWN2 := Lib.hid (show OwnI w2 w.heap.size u6 acc from owns_below (owns_below HOWN.out HBR) hb2)
        clear hb2 hb2' hb
        by_cases hz : e = 0
        · subst hz
          have HN := Lib.hid (show sumL c (l.drop (k + 1)) (acc ++ [a]) (n + a) = R by have h9 := HST.out; rw [if_neg (by simp)] at h9; exact h9)
          go_wp2_with (at_builtin; refine append_I w2 rfl (.tmp 32) (.tmp 34) rfl w.heap.size u6 acc rfl HOWN2.out hac hsz2 a rfl ?_; intro v7 w7 hown7 hg7; have HOWN7 := Lib.hid hown7; have HG7 := Lib.hid hg7; clear hown7 hg7)
          exact ⟨⟨k + 1, acc ++ [a], n + a, by omega, by go_num, rfl, HOWN7.out, by rw [List.length_append, hacc]; rfl, by omega, by omega, HN.out, HB2.out.grown HG7.out hsz2 (fun g hg => (HOWN2.out.lt g hg).1)⟩, by simp [intOf]; omega⟩
        · have hRz : R = ([], 0, e) := by rw [← HST.out, if_pos hz]
          have hrz : r = ([], 0, 0, e) := by (rw [← HR.out, hRz]) <;> simp [hz]
          subst hrz
          have hzb : (e != 0) = true := by rw [bne_iff_ne]; exact hz
          clear hz hRz
          go_wp2_with fail
          ((try simp only [Exit.inBlock, Exit.then]); refine bodyPost_ret (results_tmp4 rfl _ _ _) rfl ?_)
          exact ⟨_, rfl, World.ownsRow_nil _ _ _ _, HB2.out⟩
      · have hRz : R = (acc, n, 0) := by
          rw [List.drop_eq_nil_of_le (by omega)] at hs
          exact hs.symm
        subst hRz
        clear hs hb
        have HR2 := Lib.hid (show (if (discountP t n).2 ≠ 0 then ([], 0, 0, (discountP t n).2) else (acc, n, (discountP t n).1, 0)) = r by have h9 := HR.out; rw [if_neg (by simp)] at h9; exact h9)
        obtain ⟨d, e, hd⟩ : ∃ d e, discountP t n = (d, e) := ⟨_, _, rfl⟩
        have HD := Lib.hid hd
        rw [hd] at HR2
        clear hd HR HS
        go_wp2_with fail
        refine (discount_any t _ n _ (RdTi.more' (show RdTi wr w.heap.size _ t from Rd.below HT.out HB.out) hsz)).mono ?_
        rintro e' w3 ⟨he, hb3⟩
        rw [HD.out] at he
        subst he
        have HB3 := Lib.hid (HB.out.trans (hb3.mono hsz))
        have HOWN3 := Lib.hid (show OwnI w3 w.heap.size u6 acc from owns_below HOWN.out hb3)
        clear hb3
        by_cases hz : e = 0
        · subst hz
          have hrz : r = (acc, n, d, 0) := by rw [← HR2.out, if_neg (by simp)]
          subst hrz
          clear HR2
          go_wp2_with fail
          ((try simp only [Exit.inBlock, Exit.then]); refine bodyPost_ret (results_tmp4 rfl _ _ _) rfl ?_)
          exact ⟨_, rfl, HOWN3.out, HB3.out⟩
        · have hrz : r = ([], 0, 0, e) := by rw [← HR2.out, if_pos hz]
          subst hrz
          have hzb : (e != 0) = true := by rw [bne_iff_ne]; exact hz
          clear hz HR2
          go_wp2_with fail
          ((try simp only [Exit.inBlock, Exit.then]); refine bodyPost_ret (results_tmp4 rfl _ _ _) rfl ?_)
          exact ⟨_, rfl, World.ownsRow_nil _ _ _ _, HB3.out⟩


set_option maxRecDepth 100000 in
set_option maxHeartbeats 2000000 in
theorem refSum_any (c : List Pr) (l : List It) (vc vl : Value) (w : World) (hc : RdPr w w.heap.size vc c) (hnm : ∀ x ∈ c, x.name.length ≤ 1000000) (hl : RdIt w w.heap.size vl l) :
    Calls Tryd.prog 31 #[vc, vl] w (SumPost (sumP c l) w) := by
  obtain ⟨Ac, cc, rfl, _, _⟩ := hc.form
  obtain ⟨A, cl, rfl, hcl, hml⟩ := hl.form
  skip
  obtain ⟨r, hr⟩ : ∃ r, sumP c l = r := ⟨_, rfl⟩
  rw [hr]
  unfold maxLen at hml
  skip
  by_cases h32 : 32 < l.length
  · have hrz : r = ([], 0, 4) := by rw [← hr]; simp [sumP, h32]
    subst hrz
    clear hr hc hl 
    go_enter Tryd.func31, Tryd.ntmps31
    go_wp2_with fail
    go_ret3
    exact ⟨_, rfl, World.ownsRow_nil _ _ _ _, Below.refl _ _⟩
  · obtain ⟨R, hR⟩ : ∃ R, sumL c l [] 0 = R := ⟨_, rfl⟩
    have hsp : sumP c l = R := by rw [sumP, if_neg h32, hR]
    rw [hsp] at hr
    have HR := Lib.hid hr
    have HS := Lib.hid hR
    have HC := Lib.hid hc
    have HNM := Lib.hid hnm
    have HL := Lib.hid hl
    skip
    clear hr hR hsp hc hnm hl 
    go_enter Tryd.func31, Tryd.ntmps31
    go_wp2_with fail
    go_loopw [7, 8, 9] (fun av nv i wr => ∃ (k : Nat) (acc : List Int) (n : Int), k ≤ l.length ∧ i = .int .i64 k ∧ nv = .int .i64 n ∧ OwnI wr w.heap.size av acc ∧ acc.length = k ∧ 0 ≤ n ∧ n ≤ k * 1500000000000 ∧ sumL c (l.drop k) acc n = R ∧ Below w.heap.size w wr) (fun _ _ i _ => l.length - (intOf i).toNat)
    case atStart => exact ⟨0, [], 0, by omega, rfl, rfl, World.ownsRow_nil _ _ _ _, rfl, by omega, by omega, HS.out, Below.refl _ _⟩
    case round =>
      obtain ⟨k, acc, n, hk, rfl, rfl, hown, hacc, n0, n1, hs, hb⟩ := hrel
      have HB := Lib.hid hb
      have hsz := hb.size
      have HOWN := Lib.hid hown
      clear hown
      by_cases hlt : k < l.length
      · have hx : l[k]? = some l[k] := List.getElem?_eq_getElem hlt
        obtain ⟨i, hie⟩ : ∃ i, l[k] = i := ⟨_, rfl⟩
        rw [hie] at hx
        obtain ⟨b, off, rfl, hbl, q0, q1, q2, q3⟩ := RdIt.at_ (Rd.below HL.out hb : RdIt _ _ _ _) hx
        have ab := amount_bd c i
        obtain ⟨a, e, ha⟩ : ∃ a e, amountP c i = (a, e) := ⟨_, _, rfl⟩
        rw [ha] at ab
        obtain ⟨a0, a1⟩ := ab
        simp only at a0 a1
        have HST := Lib.hid (sumL_step hx ha hs)
        have HA := Lib.hid ha
        have hac : acc.length ≤ 100000 := by omega
        have n2 : n ≤ 100000000000000 := by omega
        clear hs hx hie ha
        go_wp2_with fail
        have HBW : Below w.heap.size w wr := HB.out
        have HBA := HBW
        refine (refAmount_any c _ i _ (HC.out.next HBA) HNM.out).mono ?_
        rintro e' w2 ⟨he, hb2⟩
        rw [HA.out] at he
        subst he
        have hb2' : Below w.heap.size w w2 := HBW.trans (hb2.mono HBW.size)
        have HB2 := Lib.hid hb2'
        have hsz2 := hb2'.size
        have HOWN2 := Lib.hid (show OwnI w2 w.heap.size u7 acc from owns_below (HOWN.out) hb2)
        clear hb2 hb2' hb
        by_cases hz : e = 0
        · subst hz
          have HN := Lib.hid (show sumL c (l.drop (k + 1)) (acc ++ [a]) (n + a) = R by have h9 := HST.out; rw [if_neg (by simp)] at h9; exact h9)
          go_wp2_with (at_builtin; refine append_I w2 rfl (.tmp 33) (.tmp 35) rfl w.heap.size u7 acc rfl HOWN2.out hac hsz2 a rfl ?_; intro v7 w7 hown7 hg7; have HOWN7 := Lib.hid hown7; have HG7 := Lib.hid hg7; clear hown7 hg7)
          exact ⟨⟨k + 1, acc ++ [a], n + a, by omega, by go_num, rfl, HOWN7.out, by rw [List.length_append, hacc]; rfl, by omega, by omega, HN.out, HB2.out.grown HG7.out hsz2 (fun g hg => (HOWN2.out.lt g hg).1)⟩, by simp [intOf]; omega⟩
        · have hRz : R = ([], 0, e) := by rw [← HST.out, if_pos hz]
          have hrz : r = ([], 0, e) := by (rw [← HR.out, hRz]) <;> simp [hz]
          subst hrz
          have hzb : (e != 0) = true := by rw [bne_iff_ne]; exact hz
          clear hz hRz
          go_wp2_with fail
          go_ret3
          exact ⟨_, rfl, World.ownsRow_nil _ _ _ _, HB2.out⟩
      · have hRz : R = (acc, n, 0) := by
          rw [List.drop_eq_nil_of_le (by omega)] at hs
          exact hs.symm
        subst hRz
        clear hs hb
        have hrz : r = (acc, n, 0) := HR.out.symm
        subst hrz
        clear HR HS
        go_wp2_with fail
        go_ret3
        exact ⟨_, rfl, HOWN.out, HB.out⟩


end Go.Proofs.YtdbkdneolcgfjaaDoor
