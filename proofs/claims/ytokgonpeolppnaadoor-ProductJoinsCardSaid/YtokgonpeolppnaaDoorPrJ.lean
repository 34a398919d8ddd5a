/-
  The contract of the reader's method product (package product).
-/
import Derived.Test.YtokgonpeolppnaaDoorPrI
import Derived.Test.YtokgonpeolppnaaDoorPrM
namespace Go.Proofs.YtokgonpeolppnaaDoor
open Go.RowKit Saw

theorem lx_field1 (k n q : Int) (t : ByteArray) (W : World) : (Instr.field 58 (.agg #[.int .i64 k, .string t, .int .i64 n, .int .i64 q]) 1).run Tryd.prog W = .ok (.string t) W := by kernel_rfl
theorem lx_field2 (k n q : Int) (t : ByteArray) (W : World) : (Instr.field 58 (.agg #[.int .i64 k, .string t, .int .i64 n, .int .i64 q]) 2).run Tryd.prog W = .ok (.int .i64 n) W := by kernel_rfl

theorem OwnsI.row {W : World} {base g : Nat} {v : Value} {l : List Int} (h : OwnsI W base v l) (hg : g < base) (cs : Array Value) : OwnsI (W.setRow g cs) base v l := by
  refine ⟨h.1, ?_⟩
  rcases h.2 with hn | ⟨g', cap, cur, rfl, hbg, hgg, rest⟩
  · exact .inl hn
  · exact .inr ⟨g', cap, cur, rfl, hbg, (setRow_other _ _ _ _ (by omega)).trans hgg, rest⟩

theorem OwnsI.form {W : World} {base : Nat} {v : Value} {l : List Int} (h : OwnsI W base v l) : ∃ A c, v = .slice A l.length c := by
  rcases h.2 with ⟨rfl, h0⟩ | ⟨g', cap, cur, rfl, _⟩
  · exact ⟨none, 0, by rw [h0]⟩
  · exact ⟨_, _, rfl⟩

theorem OwnsI.alloc {W : World} {base : Nat} {v : Value} {l : List Int} (h : OwnsI W base v l) (ob : Obj) : OwnsI (W.alloc ob) base v l := World.ownsRow.alloc h ob
theorem OwnsI.push {w5 : World} {base gg cap g j : Nat} {l : List Int} {x : Int} {u : Value} (h : w5.ownsRow base 3 1 (.slice (some ⟨gg, 0, none⟩) (l.length + 1) cap) (l.length + 1) (ints l ++ [.int .i64 x])) (hg : g < base) : OwnsI (w5.setCell ⟨g, j, none⟩ u) base (.slice (some ⟨gg, 0, none⟩) (l.length + 1) cap) (l ++ [x]) := by
  refine OwnsI.set ?_ hg
  unfold OwnsI
  rw [List.length_append, ints_snoc]
  exact h
theorem Apart.symm {v u : Value} (h : Apart v u) : Apart u v := fun g h1 h2 => h g h2 h1
section
variable {w w1 w5 : World} {rb gg cap : Nat} {lv v1 v2 : Value} {s : Nat × Bool} {cs : Array Value} {ls ps : List Int} {x : Int} {o : Obj}
/-- A row of the call's own is appended to, and the new slice is stored in the product. -/
theorem push_row (h : PSt w w1 rb lv s cs) (o1 : OwnsI w1 (w.heap.size + 2) v1 ls) (o2 : OwnsI w1 (w.heap.size + 2) v2 ps) (hap : Apart v1 v2)
    (hown : w5.ownsRow (w.heap.size + 2) 3 1 (.slice (some ⟨gg, 0, none⟩) (ls.length + 1) cap) (ls.length + 1) (ints ls ++ [.int .i64 x])) (hgrow : (w1.alloc o).grownBy w5 v1.ownBlock) (hat : v1.ownBlock = some gg ∨ gg = (w1.alloc o).heap.size) (j : Nat) :
    PSt w (w5.setCell ⟨w.heap.size + 1, j, none⟩ (.slice (some ⟨gg, 0, none⟩) (ls.length + 1) cap)) rb lv s (cs.setIfInBounds j (.slice (some ⟨gg, 0, none⟩) (ls.length + 1) cap)) ∧
      OwnsI (w5.setCell ⟨w.heap.size + 1, j, none⟩ (.slice (some ⟨gg, 0, none⟩) (ls.length + 1) cap)) (w.heap.size + 2) (.slice (some ⟨gg, 0, none⟩) (ls.length + 1) cap) (ls ++ [x]) ∧
      OwnsI (w5.setCell ⟨w.heap.size + 1, j, none⟩ (.slice (some ⟨gg, 0, none⟩) (ls.length + 1) cap)) (w.heap.size + 2) v2 ps ∧ Apart (.slice (some ⟨gg, 0, none⟩) (ls.length + 1) cap) v2 := by
  refine ⟨((h.alloc o).grow hgrow (fun g hg => (o1.ge g hg).1)).set j _, OwnsI.push hown (by omega), ((o2.alloc o).grow hgrow (fun g hg hr => hap g hr hg)).set (by omega), ?_⟩
  intro g hg hv
  have e : some gg = some g := hg
  injection e with e
  subst e
  rcases hat with h1 | h1
  · exact hap _ h1 hv
  · have := (o2.ge _ hv).2
    rw [World.size_alloc] at h1
    omega
theorem push_held (h : PSt w w1 rb lv s cs) (o1 : OwnsI w1 (w.heap.size + 2) v1 ls) (hgrow : (w1.alloc o).grownBy w5 v1.ownBlock) {j : Nat} {v : Value} (hv : cs[j]? = some v) : w5.cell? ⟨w.heap.size + 1, j, none⟩ = some v ∧ w5.frozen? ⟨w.heap.size + 1, j, none⟩ = false := by
  have h1 := (h.alloc o).grow hgrow (fun g hg => (o1.ge g hg).1)
  exact ⟨h1.cell j v hv, h1.frozen j⟩
end

def ProdPost (w : World) (rb : Nat) (lv : Value) (r : Pr × (Nat × Bool)) (e : Ending) (w' : World) : Prop :=
  ∃ v1 v2, e = .returned (.agg (prCells r.1 v1 v2).toArray) ∧ OwnsI w' w.heap.size v1 r.1.lens ∧ OwnsI w' w.heap.size v2 r.1.prices ∧ IsPrR w' rb lv r.2.1 r.2.2 ∧ w.grownBy w' (some rb)

/-- What holds ahead of a round of the loop. -/
def PairRel (w : World) (rb : Nat) (lv : Value) (xs : List Lx) (nm : List UInt8) (a b c d : Int) (R : List Int × List Int × (Nat × Bool)) (mv : Value) (wr : World) : Prop :=
  ∃ (more : Bool) (s : Nat × Bool) (ls ps : List Int) (v1 v2 : Value), mv = .bool more ∧ s.1 < xs.length ∧ ls.length ≤ s.1 + 1 ∧ ps.length ≤ s.1 + 1 ∧ PSt w wr rb lv s #[.string (str nm), .int .i64 a, .int .i64 b, .int .i64 c, .int .i64 d, v1, v2] ∧
    OwnsI wr (w.heap.size + 2) v1 ls ∧ OwnsI wr (w.heap.size + 2) v2 ps ∧ Apart v1 v2 ∧
    (more = true → ls.length ≤ s.1 ∧ ps.length ≤ s.1 ∧ ∃ n, xs.length - s.1 ≤ n ∧ pairsS xs n s ls ps = R) ∧ (more = false → (ls, ps, s) = R)
def pairLeft (xs : List Lx) (rb : Nat) (mv : Value) (w : World) : Nat := match mv, w.cell? ⟨rb, 1, none⟩ with | .bool true, some (.int _ n) => xs.length - n.toNat + 1 | _, _ => 0
theorem pairLeft_of {xs : List Lx} {w : World} {rb k : Nat} {lv : Value} {f : Bool} (h : IsPrR w rb lv k f) : pairLeft xs rb (.bool true) w = xs.length - k + 1 ∧ pairLeft xs rb (.bool false) w = 0 := by
  refine ⟨?_, rfl⟩
  unfold pairLeft
  simp only [h.cells.2.1]
  rw [Int.toNat_natCast]

set_option maxRecDepth 100000 in
set_option maxHeartbeats 1000000 in
theorem product_pr (w : World) (rb : Nat) (lv : Value) (s : Nat × Bool) (xs : List Lx) (hr : IsPrR w rb lv s.1 s.2) (hl : Rd w rb 4 lv xs.length (lxsCells xs)) (hkx : s.1 < xs.length) (hxl : xs.length ≤ 100000) (hend : LxEnds xs) :
    Calls Tryd.prog 38 #[.pointer (some ⟨rb, 0, none⟩)] w (ProdPost w rb lv (prodS xs s)) := by
  obtain ⟨r, hrr⟩ : ∃ r, prodS xs s = r := ⟨_, rfl⟩
  rw [hrr]
  have hrb : rb < w.heap.size := (Array.getElem?_eq_some_iff.1 hr).1
  obtain ⟨i1, i2, i3, i4, i5, i6, i7, i8, i9, i10⟩ := hd10_in hend hkx
  have HRR := Lib.hid hrr
  have HL := Lib.hid hl
  have HEND := Lib.hid hend
  have HST := Lib.hid (show PSt w ((w.alloc (.cells #[.string ⟨#[]⟩, .int .i64 0, .int .i64 0, .int .i64 0, .int .i64 0, .slice none 0 0, .slice none 0 0] 29)).alloc (.cells #[.string ⟨#[]⟩, .int .i64 0, .int .i64 0, .int .i64 0, .int .i64 0, .slice none 0 0, .slice none 0 0] 29)) rb lv s #[.string ⟨#[]⟩, .int .i64 0, .int .i64 0, .int .i64 0, .int .i64 0, .slice none 0 0, .slice none 0 0] from
    ⟨(hr.alloc _).alloc _, gb_alloc (gb_alloc gb_refl _) _, ⟨#[.string ⟨#[]⟩, .int .i64 0, .int .i64 0, .int .i64 0, .int .i64 0, .slice none 0 0, .slice none 0 0], rfl, hpA (heap_alloc_last w _) _⟩, by have := heap_alloc_last (w.alloc (.cells #[.string ⟨#[]⟩, .int .i64 0, .int .i64 0, .int .i64 0, .int .i64 0, .slice none 0 0, .slice none 0 0] 29)) (.cells #[.string ⟨#[]⟩, .int .i64 0, .int .i64 0, .int .i64 0, .int .i64 0, .slice none 0 0, .slice none 0 0] 29); rwa [World.size_alloc] at this, hrb⟩)
  have hxm : xs.length < 1000000 := by omega
  have lf1 := lx_field1
  have lf2 := lx_field2
  clear hrr hr hl hend
  go_enter Tryd.func38, Tryd.ntmps38
  go_wp2_with fail
  refine (take_st (s := s) HL.out hxm HST.out hkx _ _ (1, productW) (by rfl)).mono ?_
  rintro e w1 ⟨he, hst, -⟩
  subst he
  have hz1 := hst.lt
  have HS1 := Lib.hid (show PSt w w1 rb lv (hd1 xs s) #[.string ⟨#[]⟩, .int .i64 0, .int .i64 0, .int .i64 0, .int .i64 0, .slice none 0 0, .slice none 0 0] from hst)
  clear hst
  go_wp2_with fail
  refine (take_st (s := (hd1 xs s)) HL.out hxm HS1.out i1 _ _ (1, []) (by rfl)).mono ?_
  rintro e w2 ⟨he, hst, -⟩
  subst he
  have hz2 := hst.lt
  have q2 := hst.cell 0 (.string ⟨#[]⟩) rfl
  have z2 := hst.frozen 0
  have HS2 := Lib.hid (show PSt w (w2.setCell ⟨w.heap.size + 1, 0, none⟩ (.string (str (lexS xs (hd1 xs s) (1, [])).text))) rb lv (hd2 xs s) #[.string (str (lexS xs (hd1 xs s) (1, [])).text), .int .i64 0, .int .i64 0, .int .i64 0, .int .i64 0, .slice none 0 0, .slice none 0 0] from hst.set 0 (.string (str (lexS xs (hd1 xs s) (1, [])).text)))
  clear hst
  clear HS1
  go_wp2_with fail
  refine (take_st (s := (hd2 xs s)) HL.out hxm HS2.out i2 _ _ (2, []) (by rfl)).mono ?_
  rintro e w3 ⟨he, hst, -⟩
  subst he
  have hz3 := hst.lt
  have q3 := hst.cell 1 (.int .i64 0) rfl
  have z3 := hst.frozen 1
  have HS3 := Lib.hid (show PSt w (w3.setCell ⟨w.heap.size + 1, 1, none⟩ (.int .i64 (lexS xs (hd2 xs s) (2, [])).num)) rb lv (hd3 xs s) #[.string (str (lexS xs (hd1 xs s) (1, [])).text), .int .i64 (lexS xs (hd2 xs s) (2, [])).num, .int .i64 0, .int .i64 0, .int .i64 0, .slice none 0 0, .slice none 0 0] from hst.set 1 (.int .i64 (lexS xs (hd2 xs s) (2, [])).num))
  clear hst
  clear HS2
  go_wp2_with fail
  refine (take_st (s := (hd3 xs s)) HL.out hxm HS3.out i3 _ _ (1, [120]) (by rfl)).mono ?_
  rintro e w4 ⟨he, hst, -⟩
  subst he
  have hz4 := hst.lt
  have HS4 := Lib.hid (show PSt w w4 rb lv (hd4 xs s) #[.string (str (lexS xs (hd1 xs s) (1, [])).text), .int .i64 (lexS xs (hd2 xs s) (2, [])).num, .int .i64 0, .int .i64 0, .int .i64 0, .slice none 0 0, .slice none 0 0] from hst)
  clear hst
  clear HS3
  go_wp2_with fail
  refine (take_st (s := (hd4 xs s)) HL.out hxm HS4.out i4 _ _ (2, []) (by rfl)).mono ?_
  rintro e w5 ⟨he, hst, -⟩
  subst he
  have hz5 := hst.lt
  have q5 := hst.cell 2 (.int .i64 0) rfl
  have z5 := hst.frozen 2
  have HS5 := Lib.hid (show PSt w (w5.setCell ⟨w.heap.size + 1, 2, none⟩ (.int .i64 (lexS xs (hd4 xs s) (2, [])).num)) rb lv (hd5 xs s) #[.string (str (lexS xs (hd1 xs s) (1, [])).text), .int .i64 (lexS xs (hd2 xs s) (2, [])).num, .int .i64 (lexS xs (hd4 xs s) (2, [])).num, .int .i64 0, .int .i64 0, .slice none 0 0, .slice none 0 0] from hst.set 2 (.int .i64 (lexS xs (hd4 xs s) (2, [])).num))
  clear hst
  clear HS4
  go_wp2_with fail
  refine (take_st (s := (hd5 xs s)) HL.out hxm HS5.out i5 _ _ (1, allowW) (by rfl)).mono ?_
  rintro e w6 ⟨he, hst, -⟩
  subst he
  have hz6 := hst.lt
  have HS6 := Lib.hid (show PSt w w6 rb lv (hd6 xs s) #[.string (str (lexS xs (hd1 xs s) (1, [])).text), .int .i64 (lexS xs (hd2 xs s) (2, [])).num, .int .i64 (lexS xs (hd4 xs s) (2, [])).num, .int .i64 0, .int .i64 0, .slice none 0 0, .slice none 0 0] from hst)
  clear hst
  clear HS5
  go_wp2_with fail
  refine (take_st (s := (hd6 xs s)) HL.out hxm HS6.out i6 _ _ (2, []) (by rfl)).mono ?_
  rintro e w7 ⟨he, hst, -⟩
  subst he
  have hz7 := hst.lt
  have q7 := hst.cell 3 (.int .i64 0) rfl
  have z7 := hst.frozen 3
  have HS7 := Lib.hid (show PSt w (w7.setCell ⟨w.heap.size + 1, 3, none⟩ (.int .i64 (lexS xs (hd6 xs s) (2, [])).num)) rb lv (hd7 xs s) #[.string (str (lexS xs (hd1 xs s) (1, [])).text), .int .i64 (lexS xs (hd2 xs s) (2, [])).num, .int .i64 (lexS xs (hd4 xs s) (2, [])).num, .int .i64 (lexS xs (hd6 xs s) (2, [])).num, .int .i64 0, .slice none 0 0, .slice none 0 0] from hst.set 3 (.int .i64 (lexS xs (hd6 xs s) (2, [])).num))
  clear hst
  clear HS6
  go_wp2_with fail
  refine (take_st (s := (hd7 xs s)) HL.out hxm HS7.out i7 _ _ (1, waneW) (by rfl)).mono ?_
  rintro e w8 ⟨he, hst, -⟩
  subst he
  have hz8 := hst.lt
  have HS8 := Lib.hid (show PSt w w8 rb lv (hd8 xs s) #[.string (str (lexS xs (hd1 xs s) (1, [])).text), .int .i64 (lexS xs (hd2 xs s) (2, [])).num, .int .i64 (lexS xs (hd4 xs s) (2, [])).num, .int .i64 (lexS xs (hd6 xs s) (2, [])).num, .int .i64 0, .slice none 0 0, .slice none 0 0] from hst)
  clear hst
  clear HS7
  go_wp2_with fail
  refine (take_st (s := (hd8 xs s)) HL.out hxm HS8.out i8 _ _ (2, []) (by rfl)).mono ?_
  rintro e w9 ⟨he, hst, -⟩
  subst he
  have hz9 := hst.lt
  have q9 := hst.cell 4 (.int .i64 0) rfl
  have z9 := hst.frozen 4
  have HS9 := Lib.hid (show PSt w (w9.setCell ⟨w.heap.size + 1, 4, none⟩ (.int .i64 (lexS xs (hd8 xs s) (2, [])).num)) rb lv (hd9 xs s) #[.string (str (lexS xs (hd1 xs s) (1, [])).text), .int .i64 (lexS xs (hd2 xs s) (2, [])).num, .int .i64 (lexS xs (hd4 xs s) (2, [])).num, .int .i64 (lexS xs (hd6 xs s) (2, [])).num, .int .i64 (lexS xs (hd8 xs s) (2, [])).num, .slice none 0 0, .slice none 0 0] from hst.set 4 (.int .i64 (lexS xs (hd8 xs s) (2, [])).num))
  clear hst
  clear HS8
  go_wp2_with fail
  refine (take_st (s := (hd9 xs s)) HL.out hxm HS9.out i9 _ _ (3, [58]) (by rfl)).mono ?_
  rintro e w10 ⟨he, hst, -⟩
  subst he
  have hz10 := hst.lt
  have HS10 := Lib.hid (show PSt w w10 rb lv (hd10 xs s) #[.string (str (lexS xs (hd1 xs s) (1, [])).text), .int .i64 (lexS xs (hd2 xs s) (2, [])).num, .int .i64 (lexS xs (hd4 xs s) (2, [])).num, .int .i64 (lexS xs (hd6 xs s) (2, [])).num, .int .i64 (lexS xs (hd8 xs s) (2, [])).num, .slice none 0 0, .slice none 0 0] from hst)
  clear hst
  clear HS9
  go_wp2_with fail
  obtain ⟨R, hR⟩ : ∃ R, pairsS xs xs.length (hd10 xs s) [] [] = R := ⟨_, rfl⟩
  have hrz : r = (⟨(lexS xs (hd1 xs s) (1, [])).text, (lexS xs (hd2 xs s) (2, [])).num, (lexS xs (hd4 xs s) (2, [])).num, (lexS xs (hd6 xs s) (2, [])).num, (lexS xs (hd8 xs s) (2, [])).num, R.1, R.2.1⟩, nextS xs R.2.2 (3, [59])) := by rw [← HRR.out, prodS, hR]
  have HPS := Lib.hid hR
  have h10 := HS10.out
  clear hR HRR HS10
  generalize (lexS xs (hd1 xs s) (1, [])).text = nm at hrz h10
  generalize (lexS xs (hd2 xs s) (2, [])).num = a at hrz h10
  generalize (lexS xs (hd4 xs s) (2, [])).num = b at hrz h10
  generalize (lexS xs (hd6 xs s) (2, [])).num = c at hrz h10
  generalize (lexS xs (hd8 xs s) (2, [])).num = d at hrz h10
  have HS10 := Lib.hid h10
  have HRZ := Lib.hid hrz
  clear h10 hrz
  go_loopw [4] (PairRel w rb lv xs nm a b c d R) (pairLeft xs rb)
  case atStart => exact ⟨true, hd10 xs s, [], [], .slice none 0 0, .slice none 0 0, rfl, i10, by simp, by simp, HS10.out, World.ownsRow_nil _ _ _ _, World.ownsRow_nil _ _ _ _, nofun, fun _ => ⟨by simp, by simp, xs.length, by omega, HPS.out⟩, nofun⟩
  case round =>
    obtain ⟨more, s1, ls, ps, v1, v2, rfl, hs1, hls, hps, hst, ho1, ho2, hap, hT, hF⟩ := hrel
    obtain ⟨A1, k1, rfl⟩ := ho1.form
    obtain ⟨A2, k2, rfl⟩ := ho2.form
    have HPL := Lib.hid (pairLeft_of (xs := xs) hst.1)
    have HST0 := Lib.hid hst
    have hz0 := hst.lt
    have HO1 := Lib.hid ho1
    have HO2 := Lib.hid ho2
    have HAP := Lib.hid hap
    clear HS10
    cases more with
    | false =>
      have hRe := (hF rfl).symm
      subst hRe
      have hrz := HRZ.out
      obtain ⟨x, hx⟩ : ∃ x : Pr, x = ⟨nm, a, b, c, d, ls, ps⟩ := ⟨_, rfl⟩
      obtain ⟨cs, hcs⟩ : ∃ cs, (prCells x (.slice A1 ls.length k1) (.slice A2 ps.length k2)).toArray = cs := ⟨_, rfl⟩
      have hrz : r = (x, nextS xs s1 (3, [59])) := by rw [HRZ.out, hx]
      subst hrz
      clear hst ho1 ho2 hap hT hF HPL HRZ
      go_wp2_with fail
      refine (take_st (s := s1) HL.out hxm HST0.out hs1 _ _ (3, [59]) (by rfl)).mono ?_
      rintro e w9 ⟨he, hst9, hg9⟩
      subst he
      obtain ⟨h91, h92, ⟨c0, hc0, h93⟩, h94, _⟩ := hst9
      have h95 : w9.heap[w.heap.size + 1]? = some (.cells (prCells x (.slice A1 ls.length k1) (.slice A2 ps.length k2)).toArray 29 (0, 0)) := by rw [h94, hx]; rfl
      have HN := Lib.hid h95
      have HZ := Lib.hid h93
      have HC0 := Lib.hid hc0
      have HR9 := Lib.hid h91
      have HG9 := Lib.hid h92
      have HOA := Lib.hid (show OwnsI w9 (w.heap.size + 2) _ x.lens by rw [hx]; exact HO1.out.gb hg9 (by omega))
      have HOB := Lib.hid (show OwnsI w9 (w.heap.size + 2) _ x.prices by rw [hx]; exact HO2.out.gb hg9 (by omega))
      have HQR := Lib.hid (setRow_heap _ _ _ (prCells x (.slice A1 ls.length k1) (.slice A2 ps.length k2)).toArray _ _ h93)
      clear hc0 h91 h92 h93 h94 h95 hg9 hcs hx HO1 HO2
      go_wp2_with (first
        | ((with_reducible refine pr_load (w.heap.size + 1) 0 x (.slice A1 ls.length k1) (.slice A2 ps.length k2) ?hx (rangeAt_block HN.out) ?_); (case hx => rfl))
        | ((with_reducible refine pr_put w.heap.size x (.slice A1 ls.length k1) (.slice A2 ps.length k2) rfl rfl ?hx ?hy HZ.out HC0 ?_); (case hx => rfl); (case hy => rfl)))
      refine bodyPost_ret (v := .agg (prCells x (.slice A1 ls.length k1) (.slice A2 ps.length k2)).toArray) ?_ rfl ⟨_, _, rfl, ?_, ?_, ?_, ?_⟩
      · exact results_cell1 Tryd.results38 _ _ w.heap.size 0 (prCells x (.slice A1 ls.length k1) (.slice A2 ps.length k2)) rfl (rangeAt_block HQR.out) Tryd.underlying29 rfl pr_info
      · exact (HOA.out.row (by omega) _).deeper (by omega)
      · exact (HOB.out.row (by omega) _).deeper (by omega)
      · exact HR9.out.row (by omega) _
      · exact gb_setRow HG9.out (.inr (Nat.le_refl _)) _
    | true =>
      obtain ⟨hl1, hl2, n, hn, hRn⟩ := hT rfl
      obtain ⟨n', rfl⟩ : ∃ n', n = n' + 1 := ⟨n - 1, by omega⟩
      rw [pairsS] at hRn
      have HRN := Lib.hid hRn
      obtain ⟨j1, hj1⟩ : ∃ j1, nextS xs s1 (2, []) = j1 := ⟨_, rfl⟩
      have jn1 : j1.1 < xs.length := by rw [← hj1]; exact nextS_in HEND.out (by decide) hs1
      obtain ⟨j2, hj2⟩ : ∃ j2, nextS xs j1 (3, [64]) = j2 := ⟨_, rfl⟩
      have jn2 : j2.1 < xs.length := by rw [← hj2]; exact nextS_in HEND.out (by decide) jn1
      obtain ⟨j3, hj3⟩ : ∃ j3, nextS xs j2 (2, []) = j3 := ⟨_, rfl⟩
      have jn3 : j3.1 < xs.length := by rw [← hj3]; exact nextS_in HEND.out (by decide) jn2
      have hps : pairS xs s1 = j3 := by rw [pairS, hj1, hj2, hj3]
      have hge : s1.1 ≤ j3.1 := by rw [← hps]; exact pairS_ge xs s1
      obtain ⟨a1, ha1⟩ : ∃ a1, (lexS xs s1 (2, [])).num = a1 := ⟨_, rfl⟩
      obtain ⟨a2, ha2⟩ : ∃ a2, (lexS xs j2 (2, [])).num = a2 := ⟨_, rfl⟩
      have hpl : pairL xs s1 = a1 := ha1
      have hpp : pairP xs s1 = a2 := by rw [pairP, hj1, hj2, ha2]
      have c5 := hst.cell 5 _ rfl
      obtain ⟨i0, hi0, hq0, hq1, hq2⟩ := info_parts info_int
      have HJ := Lib.hid (And.intro hj1 (And.intro hj2 (And.intro hj3 (And.intro ha1 ha2))))
      have HPP := Lib.hid (And.intro hps (And.intro hpl hpp))
      clear hst ho1 ho2 hap hT hF hRn hj1 hj2 hj3 hps hpl hpp ha1 ha2
      go_wp2_with fail
      go_region_law
        (first
          | (refine step_append_lies _ (by rfl) _ _ 27 (by rfl) (w.heap.size + 2) 3 i0 _ 1 8 Tryd.underlying27 hi0 hq0 hq1 hq2 rfl (by omega) (.slice A1 ls.length k1) ls.length (ints ls) (by rfl) (HOA.out.alloc _)
                ⟨w1.heap.size, 0, none⟩ 1 1 [.int .i64 (lexS xs s1 (2, [])).num] (by rfl) (by rfl) (World.news_of_block (cs := #[.int .i64 (lexS xs s1 (2, [])).num]) (t := 3) (fr := (0, 0)) (heap_alloc_last w1 _)) (by intro u hu; rw [List.mem_singleton.1 hu]; rfl)
                (by omega) (by simp only [maxLen]; omega) (by omega) (by rw [World.size_alloc]; omega) _ rfl ?_; intro gg cap w5 hown5 hgrow hat hlt; obtain ⟨cz, fz⟩ := push_held HS1.out HOA.out hgrow (j := 5) rfl)
          | (go_simp; go_at_call 52; refine (take_st (s := s1) HL.out hxm HST0.out.drew hs1 _ _ (2, []) (by rfl)).mono ?_; rintro e w1 ⟨he, hst1, hg1⟩; subst he; have HS1 := Lib.hid hst1; have HOA := Lib.hid (HO1.out.drew.gb hg1 (by omega)); have HOB := Lib.hid (HO2.out.drew.gb hg1 (by omega)); have cy := hst1.cell 5 _ rfl; have hzz := hst1.lt; clear hst1 hg1))
      all_goals
        obtain ⟨hs6, ho6, hq6, hap6⟩ := push_row HS1.out HOA.out HOB.out HAP.out hown5 hgrow hat 5
        obtain ⟨W6, hW6⟩ : ∃ W6, w5.setCell ⟨w.heap.size + 1, 5, none⟩ (.slice (some ⟨gg, 0, none⟩) (ls.length + 1) cap) = W6 := ⟨_, rfl⟩
        rw [hW6] at hs6 ho6 hq6
        rw [hW6]
        have HS6 := Lib.hid (show PSt w W6 rb lv j1 #[.string (str nm), .int .i64 a, .int .i64 b, .int .i64 c, .int .i64 d, (.slice (some ⟨gg, 0, none⟩) (ls.length + 1) cap), .slice A2 ps.length k2] by rw [← HJ.out.1]; exact hs6)
        have HO6 := Lib.hid ho6
        have HQ6 := Lib.hid hq6
        have HAP6 := Lib.hid hap6
        have hz6 := hs6.lt
        clear hs6 ho6 hq6 hap6 hown5 hgrow hat hlt cz fz cy hzz hW6 HS1 HOA HOB c5
        go_wp2_with fail
        refine (take_st (s := j1) HL.out hxm HS6.out jn1 _ _ (3, [64]) (by rfl)).mono ?_
        rintro e w7 ⟨he, hst7, hg7⟩
        subst he
        have HS7 := Lib.hid (show PSt w w7 rb lv j2 #[.string (str nm), .int .i64 a, .int .i64 b, .int .i64 c, .int .i64 d, (.slice (some ⟨gg, 0, none⟩) (ls.length + 1) cap), .slice A2 ps.length k2] by rw [← HJ.out.2.1]; exact hst7)
        have HO7 := Lib.hid (HO6.out.gb hg7 (by omega))
        have HQ7 := Lib.hid (HQ6.out.gb hg7 (by omega))
        have hz7 := hst7.lt
        have c6 := hst7.cell 6 _ rfl
        clear hst7 hg7 HS6 HO6 HQ6
        go_wp2_with fail
        go_region_law
          (first
          | (refine step_append_lies _ (by rfl) _ _ 27 (by rfl) (w.heap.size + 2) 3 i0 _ 1 8 Tryd.underlying27 hi0 hq0 hq1 hq2 rfl (by omega) (.slice A2 ps.length k2) ps.length (ints ps) (by rfl) (HQ8.out.alloc _)
                ⟨w8.heap.size, 0, none⟩ 1 1 [.int .i64 (lexS xs j2 (2, [])).num] (by rfl) (by rfl) (World.news_of_block (cs := #[.int .i64 (lexS xs j2 (2, [])).num]) (t := 3) (fr := (0, 0)) (heap_alloc_last w8 _)) (by intro u hu; rw [List.mem_singleton.1 hu]; rfl)
                (by omega) (by simp only [maxLen]; omega) (by omega) (by rw [World.size_alloc]; omega) _ rfl ?_; intro gg2 cap2 w9 hown5 hgrow hat hlt; obtain ⟨cz, fz⟩ := push_held HS8.out HQ8.out hgrow (j := 6) rfl)
          | (go_simp; go_at_call 52; refine (take_st (s := j2) HL.out hxm HS7.out.drew jn2 _ _ (2, []) (by rfl)).mono ?_; rintro e w8 ⟨he, hst1, hg1⟩; subst he; have HS8 := Lib.hid hst1; have HQ8 := Lib.hid (HQ7.out.drew.gb hg1 (by omega)); have HO8 := Lib.hid (HO7.out.drew.gb hg1 (by omega)); have cy := hst1.cell 6 _ rfl; have hzz := hst1.lt; clear hst1 hg1))
        all_goals
          obtain ⟨hs9, ho9, hq9, hap9⟩ := push_row HS8.out HQ8.out HO8.out HAP6.out.symm hown5 hgrow hat 6
          obtain ⟨W9, hW9⟩ : ∃ W9, w9.setCell ⟨w.heap.size + 1, 6, none⟩ (.slice (some ⟨gg2, 0, none⟩) (ps.length + 1) cap2) = W9 := ⟨_, rfl⟩
          rw [hW9] at hs9 ho9 hq9
          rw [hW9]
          have HS9 := Lib.hid (show PSt w W9 rb lv j3 #[.string (str nm), .int .i64 a, .int .i64 b, .int .i64 c, .int .i64 d, (.slice (some ⟨gg, 0, none⟩) (ls.length + 1) cap), (.slice (some ⟨gg2, 0, none⟩) (ps.length + 1) cap2)] by rw [← HJ.out.2.2.1]; exact hs9)
          have HO9 := Lib.hid ho9
          have HQ9 := Lib.hid hq9
          have HAP9 := Lib.hid hap9.symm
          have hz9 := hs9.lt
          clear hs9 ho9 hq9 hap9 hown5 hgrow hat hlt cz fz cy hzz hW9 HS8 HQ8 HO8 c6
          go_wp2_with fail
          refine (try_st (s := j3) HL.out hxm HS9.out jn3 _ _ (3, [44]) (by rfl)).mono ?_
          rintro e wA ⟨he, hstA, hgA⟩
          subst he
          have HRX := Lib.hid (show (if okS xs j3 (3, [44]) then pairsS xs n' (tryS xs j3 (3, [44])) (ls ++ [(lexS xs s1 (2, [])).num]) (ps ++ [(lexS xs j2 (2, [])).num]) else (ls ++ [(lexS xs s1 (2, [])).num], ps ++ [(lexS xs j2 (2, [])).num], j3)) = R by
            have h9 := HRN.out; rw [HPP.out.1, HPP.out.2.1, HPP.out.2.2, ← HJ.out.2.2.2.1, ← HJ.out.2.2.2.2] at h9; exact h9)
          have HSA := Lib.hid hstA
          have HOA := Lib.hid (HQ9.out.gb hgA (by omega))
          have HQA := Lib.hid (HO9.out.gb hgA (by omega))
          have HTI := Lib.hid (tryS_in HEND.out (p := (3, [44])) (by decide) jn3)
          have HPA := Lib.hid (pairLeft_of (xs := xs) hstA.1)
          clear hstA hgA HS9 HO9 HQ9 HRN
          obtain ⟨m, hm⟩ : ∃ m, okS xs j3 (3, [44]) = m := ⟨_, rfl⟩
          have HM := Lib.hid hm
          rw [hm]
          clear hm
          go_wp2_with fail
          have hti := HTI.out
          have hpa := HPA.out
          have hpl := HPL.out
          have hrx := HRX.out
          have hsa := HSA.out
          have hm := HM.out
          clear HTI HPA HPL HRX HSA HM
          cases m with
          | true =>
            rw [if_pos hm] at hrx
            rw [tryS, if_pos hm] at hti hpa hrx hsa
            simp only at hti hpa
            refine ⟨⟨true, _, _, _, _, _, rfl, hti, ?_, ?_, hsa, HOA.out, HQA.out, HAP9.out, fun _ => ⟨?_, ?_, n', ?_, hrx⟩, nofun⟩, ?_⟩
            · rw [List.length_append]; simp only [List.length_cons, List.length_nil]; omega
            · rw [List.length_append]; simp only [List.length_cons, List.length_nil]; omega
            · rw [List.length_append]; simp only [List.length_cons, List.length_nil]; omega
            · rw [List.length_append]; simp only [List.length_cons, List.length_nil]; omega
            · simp only; omega
            · rw [hpa.1, hpl.1]; omega
          | false =>
            rw [if_neg (by rw [hm]; decide)] at hrx
            rw [tryS, if_neg (by rw [hm]; decide)] at hti hpa hsa
            refine ⟨⟨false, _, _, _, _, _, rfl, hti, ?_, ?_, hsa, HOA.out, HQA.out, HAP9.out, nofun, fun _ => hrx⟩, ?_⟩
            · rw [List.length_append]; simp only [List.length_cons, List.length_nil]; omega
            · rw [List.length_append]; simp only [List.length_cons, List.length_nil]; omega
            · rw [hpa.2, hpl.1]; omega

end Go.Proofs.YtokgonpeolppnaaDoor
