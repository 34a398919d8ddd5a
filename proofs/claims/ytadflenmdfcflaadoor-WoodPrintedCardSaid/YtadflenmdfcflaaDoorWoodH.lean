/-
  The contract of the reader's method all (package wood).
-/
import Derived.Test.YtadflenmdfcflaaDoorWoodD
import Derived.Test.YtadflenmdfcflaaDoorWoodG
import Derived.Test.YtadflenmdfcflaaDoorPlainA
import Derived.Deep.AppendLies
import Derived.Deep.RegionLaw
namespace Go.Proofs.YtadflenmdfcflaaDoor
open Go.RowKit Saw

def AllPost (w : World) (rb : Nat) (lv : Value) (r : List Sp × Int × Int) (e : Ending) (w' : World) : Prop :=
  e = .returned (.tuple #[.int .i64 r.2.1, .int .i64 r.2.2]) ∧ ∃ (p : Nat) (fv : Value), IsRdr w' rb lv p fv ∧ OwnsSp w' w.heap.size fv r.1 ∧ w.grownBy w' (some rb)

def AllRel (w : World) (rb : Nat) (lv : Value) (xs : List Lx) (r : List Sp × Int × Int) (n : Nat) (wr : World) : Prop :=
  ∃ (k : Nat) (fv : Value) (acc : List Sp), k < xs.length ∧ xs.length - k ≤ n ∧ IsRdr wr rb lv k fv ∧ OwnsSp wr w.heap.size fv acc ∧ w.grownBy wr (some rb) ∧ parseAll xs n k acc = r ∧ acc.length ≤ k ∧ (∀ x ∈ acc, x.name.length ≤ 100000) ∧ checkSp acc = 0

theorem own_gb {w w' : World} {base rb : Nat} {v : Value} {l : List Sp} (h : OwnsSp w base v l) (hg : w.grownBy w' (some rb)) (hb : rb < base) : OwnsSp w' base v l := by
  refine ⟨h.1, ?_⟩
  rcases h.2 with hn | ⟨g, cap, cur, rfl, hbg, hgg, rest⟩
  · exact .inl hn
  · exact .inr ⟨g, cap, cur, rfl, hbg, hp_gb hgg hg (by omega), rest⟩

theorem sp_held {W : World} {N : Nat} {y : Sp} (h : W.heap[N]? = some (.cells (spCells y).toArray 26 (0, 0))) : W.heap[N]? = some (.cells (spCells y).toArray 26 (0, 0)) ∧ W.cell? ⟨N, 0, none⟩ = some (.string (str y.name)) ∧ W.cell? ⟨N, 1, none⟩ = some (.int .i64 y.green) ∧ W.cell? ⟨N, 2, none⟩ = some (.int .i64 y.fast) ∧ W.cell? ⟨N, 3, none⟩ = some (.int .i64 y.slow) ∧ W.cell? ⟨N, 4, none⟩ = some (.int .i64 y.safe) ∧ W.cell? ⟨N, 5, none⟩ = some (.int .i64 y.grad) ∧ W.cell? ⟨N, 6, none⟩ = some (.int .i64 y.crack) ∧ W.cell? ⟨N, 7, none⟩ = some (.int .i64 y.temp) ∧ W.cell? ⟨N, 8, none⟩ = some (.int .i64 y.depress) ∧ W.cell? ⟨N, 9, none⟩ = some (.int .i64 y.density) ∧ W.cell? ⟨N, 10, none⟩ = some (.int .i64 y.stiff) ∧ W.cell? ⟨N, 11, none⟩ = some (.int .i64 y.knots) ∧ W.cell? ⟨N, 12, none⟩ = some (.int .i64 y.shrink) := by
  have hr := rangeAt_block h
  have hc : ∀ j v, (spCells y)[j]? = some v → W.cell? ⟨N, j, none⟩ = some v := fun j v hv => by have := hr j v hv; rwa [Nat.zero_add] at this
  exact ⟨h, hc 0 _ rfl, hc 1 _ rfl, hc 2 _ rfl, hc 3 _ rfl, hc 4 _ rfl, hc 5 _ rfl, hc 6 _ rfl, hc 7 _ rfl, hc 8 _ rfl, hc 9 _ rfl, hc 10 _ rfl, hc 11 _ rfl, hc 12 _ rfl⟩
theorem sz_eq {W : World} {o : Obj} : (W.alloc o).drew.heap.size = W.heap.size + 1 := World.size_alloc W o
theorem sz_next {W : World} {o : Obj} {N B : Nat} (h : W.heap.size = N + 1) (hB : B ≤ N) : B ≤ (W.alloc o).drew.heap.size := by rw [sz_eq]; omega
theorem own_ne {w : World} {base rb N : Nat} {v : Value} {l : List Sp} (h : OwnsSp w base v l) (hb : rb < base) (hN : w.heap.size ≤ N) : v.ownBlock ≠ some rb ∧ v.ownBlock ≠ some N := by
  rcases h.2 with ⟨hn, _⟩ | ⟨g, cap, cur, rfl, hbg, hgg, rest⟩
  · subst hn; exact ⟨nofun, nofun⟩
  · have := hp_lt hgg
    exact ⟨fun e => by simp [Value.ownBlock] at e; omega, fun e => by simp [Value.ownBlock] at e; omega⟩
theorem hp_row {w w' : World} {g : Nat} {row : Option Nat} {o : Obj} (h : w.heap[g]? = some o) (hg : w.grownBy w' row) (hne : some g ≠ row) : w'.heap[g]? = some o := (hg.block g (hp_lt h) hne).trans h
theorem OwnsSp.next {w : World} {base : Nat} {v : Value} {l : List Sp} (h : OwnsSp w base v l) {o : Obj} : (w.alloc o).drew.ownsRow base 26 13 v l.length (spsCells l) := World.ownsRow.alloc h o
theorem info_sp : (Tryd.prog.info? 26).map (fun i => (i.zero, i.size, i.bytes)) = some (some (.agg #[.string ⟨#[]⟩, .int .i64 0, .int .i64 0, .int .i64 0, .int .i64 0, .int .i64 0, .int .i64 0, .int .i64 0, .int .i64 0, .int .i64 0, .int .i64 0, .int .i64 0, .int .i64 0]), 13, 112) := by kernel_rfl

theorem rdr_next {W w5 : World} {o : Obj} {rb p : Nat} {lv fv : Value} {row : Option Nat} (h : IsRdr W rb lv p fv) (hg : (W.alloc o).drew.grownBy w5 row) (hne : row ≠ some rb) : IsRdr w5 rb lv p fv := hp_row (show (W.alloc o).drew.heap[rb]? = _ from h.alloc o) hg (fun e => hne e.symm)
theorem rdr_next2 {W w5 : World} {o : Obj} {rb p : Nat} {lv fv : Value} {row : Option Nat} (h : IsRdr W rb lv p fv) (hg : (W.alloc o).drew.grownBy w5 row) (hne : row ≠ some rb) : w5.cell? ⟨rb, 2, none⟩ = some fv := (rdr_next h hg hne).cells.2.2.1
theorem rdr_next3 {W w5 : World} {o : Obj} {rb p : Nat} {lv fv : Value} {row : Option Nat} (h : IsRdr W rb lv p fv) (hg : (W.alloc o).drew.grownBy w5 row) (hne : row ≠ some rb) : w5.frozen? ⟨rb, 2, none⟩ = false := (rdr_next h hg hne).cells.2.2.2.2.1

theorem IsRdr.found {w : World} {rb : Nat} {lv fv : Value} {k : Nat} (h : IsRdr w rb lv k fv) (fv' : Value) : IsRdr (w.setCell ⟨rb, 2, none⟩ fv') rb lv k fv' := by
  unfold IsRdr
  rw [setCell_eq_setRow w rb 2 _ _ _ _ h, setRow_heap _ _ _ _ _ _ h]
  rfl
theorem own_found {w : World} {base rb : Nat} {v u : Value} {l : List Sp} {y : Sp} (h : w.ownsRow base 26 13 v (l.length + 1) (spsCells l ++ spCells y)) (hb : rb < base) : OwnsSp (w.setCell ⟨rb, 2, none⟩ u) base v (l ++ [y]) := by
  unfold OwnsSp
  rw [List.length_append, spsCells_snoc]
  refine ⟨h.1, ?_⟩
  rcases h.2 with hn | ⟨g, cap, cur, rfl, hbg, hgg, rest⟩
  · exact .inl hn
  · exact .inr ⟨g, cap, cur, rfl, hbg, hp_set hgg (by omega) _, rest⟩
theorem own_ge {w : World} {base : Nat} {v : Value} {l : List Sp} (h : OwnsSp w base v l) : ∀ g, v.ownBlock = some g → base ≤ g := by
  intro g hg
  rcases h.2 with ⟨hn, _⟩ | ⟨g', cap, cur, rfl, hbg, hgg, rest⟩
  · subst hn; cases hg
  · simp [Value.ownBlock] at hg; omega
theorem gb_own {w W w5 : World} {rb : Nat} {row : Option Nat} (h : w.grownBy W (some rb)) (hg : W.grownBy w5 row) (hr : ∀ g, row = some g → w.heap.size ≤ g) : w.grownBy w5 (some rb) :=
  ⟨hg.os.trans h.os, hg.tape.trans h.tape, hg.output.trans h.output, Nat.le_trans h.size hg.size, fun k hk hne => (hg.block k (Nat.lt_of_lt_of_le hk h.size) (fun e => by have := hr k e.symm; omega)).trans (h.block k hk hne)⟩

def rdrPos (rb : Nat) (w : World) : Nat := match w.cell? ⟨rb, 1, none⟩ with | some (.int _ n) => n.toNat | _ => 0
theorem rdrPos_of {w : World} {rb k : Nat} {lv fv : Value} (h : IsRdr w rb lv k fv) : rdrPos rb w = k := by
  rw [rdrPos, h.cells.2.1]
  exact Int.toNat_natCast k

set_option maxRecDepth 100000 in
set_option maxHeartbeats 1000000 in
theorem all_any (w : World) (rb : Nat) (lv : Value) (xs : List Lx) (hr : IsRdr w rb lv 0 (.slice none 0 0)) (hl : Rd w rb 4 lv xs.length (lxsCells xs)) (hk : 0 < xs.length) (hxl : xs.length ≤ 100000) (hend : LxEnds xs) (htx : ∀ x ∈ xs, x.text.length ≤ 100000)
    (hwd : w.rangeAt 0 0 wordCells) (hg0 : 0 < rb) :
    Calls Tryd.prog 42 #[.pointer (some ⟨rb, 0, none⟩), .func (.func 43) #[] #[], .func (.func 15) #[] #[]] w (AllPost w rb lv (parseAll xs xs.length 0 [])) := by
  obtain ⟨r, hrr⟩ : ∃ r, parseAll xs xs.length 0 [] = r := ⟨_, rfl⟩
  rw [hrr]
  have hrb : rb < w.heap.size := hp_lt hr
  have HRR := Lib.hid hrr
  have HR := Lib.hid hr
  have HL := Lib.hid hl
  have HEND := Lib.hid hend
  have HTX := Lib.hid htx
  have HWD := Lib.hid hwd
  clear hrr hr hl hend hwd htx
  go_enter Tryd.func42, Tryd.ntmps42
  go_wp2_with fail
  go_loopw [12] (fun _ wr => ∃ n, AllRel w rb lv xs r n wr) (fun _ wr => xs.length - rdrPos rb wr)
  case atStart => exact ⟨xs.length, 0, .slice none 0 0, [], hk, by omega, HR.out, World.ownsRow_nil _ _ _ _, gb_refl, HRR.out, Nat.zero_le _, by simp, check_nil⟩
  case round =>
    obtain ⟨n, k, fv, acc, hkl, hn, hri, hfo, hgi, hpa, hac, hnm, hck⟩ := hrel
    obtain ⟨c0, c1, c2, f1, f2, hrs⟩ := hri.cells
    obtain ⟨x, hxe⟩ : ∃ x, lxAt xs k = x := ⟨_, rfl⟩
    have hx := lxAt_some hkl
    rw [hxe] at hx
    obtain ⟨_, hml, A, cp, hlv, hcp, hcs⟩ := HL.out.gb hgi (Nat.le_refl _) (by omega)
    obtain ⟨b, off, hA, hb, hcell⟩ := hcs (by omega)
    subst hA
    subst hlv
    obtain ⟨k0, k1, k2, k3⟩ := lxs_at xs k x hx
    have hbs : b < wr.heap.size := by omega
    have d0 := hcell _ _ k0
    have d3 := hcell _ _ k3
    rw [← Nat.add_assoc] at d3
    unfold maxLen at hml
    have HPOS := Lib.hid (rdrPos_of hri)
    have HRI := Lib.hid hri
    have HFO := Lib.hid hfo
    have HGI := Lib.hid hgi
    have HX := Lib.hid hxe
    have HCELL := Lib.hid hcell
    obtain ⟨n', rfl⟩ : ∃ n', n = n' + 1 := ⟨n - 1, by omega⟩
    rw [parseAll, hxe] at hpa
    have HPA := Lib.hid hpa
    have HNM := Lib.hid hnm
    have HCK := Lib.hid hck
    clear hri hfo hgi hxe hx hcell hcs k0 k1 k2 k3 hpa hnm hck
    by_cases hend : x.kind = 0
    · have hkb : (x.kind != 0) = false := by rw [hend]; rfl
      have hrz : r = (acc, 0, 0) := by rw [← HPA.out, if_pos hend]
      subst hrz
      clear hend HPA
      go_wp2_with fail
      go_quiet (fail)
      go_wp2_with fail
      go_ret2
      exact ⟨rfl, k, fv, HRI.out, HFO.out, gb_drewN HGI.out _⟩
    · have hkb : (x.kind != 0) = true := by rw [bne_iff_ne]; exact hend
      have HPB := Lib.hid (show (if (stmtP xs k).2.2 = false then (acc, 5, (lxAt xs (stmtP xs k).2.1).off)
          else if checkSp (acc ++ [(stmtP xs k).1]) ≠ 0 then (acc ++ [(stmtP xs k).1], checkSp (acc ++ [(stmtP xs k).1]), x.off)
          else parseAll xs n' (stmtP xs k).2.1 (acc ++ [(stmtP xs k).1])) = r by have h9 := HPA.out; rw [if_neg hend] at h9; exact h9)
      have HKN := Lib.hid hend
      clear hend HPA
      go_wp2_with fail
      go_quiet (fail)
      go_wp2_with fail
      go_quiet (fail)
      go_wp2_with fail
      refine (statement_any _ rb (.slice (some ⟨b, off, none⟩) xs.length cp) fv k xs ?_ ?_ hkl hxl HEND.out ?_ hg0).mono ?_
      · exact HRI.out
      · exact HL.out.gb (gb_drewN HGI.out _) (Nat.le_refl _) (by omega)
      · exact fun j v hv => (World.cell?_of_block (a := ⟨0, 0 + j, none⟩) (HGI.out.block 0 (by omega) (fun e => by injection e; omega))).trans (HWD.out j v hv)
      rintro e w3 ⟨he, hr3, hg3⟩
      have hin := stmtP_in HEND.out hkl
      obtain ⟨y, p, ok, hs⟩ : ∃ y p ok, stmtP xs k = (y, p, ok) := ⟨_, _, _, rfl⟩
      have hyn : y.name.length ≤ 100000 := by have := stmtP_name HTX.out k; rw [hs] at this; exact this
      rw [hs] at he hr3 hin
      have HPC := Lib.hid (show (if ok = false then (acc, 5, (lxAt xs p).off)
          else if checkSp (acc ++ [y]) ≠ 0 then (acc ++ [y], checkSp (acc ++ [y]), x.off)
          else parseAll xs n' p (acc ++ [y])) = r by have h9 := HPB.out; rw [hs] at h9; exact h9)
      have hgt : ok = true → k < p := fun h => by have := stmtP_gt (xs := xs) (k := k) (by rw [hs]; exact h); rw [hs] at this; exact this
      subst he
      simp only at hin
      have HR3 := Lib.hid (show IsRdr w3 rb (.slice (some ⟨b, off, none⟩) xs.length cp) p fv from hr3)
      have HG3 := Lib.hid (gb_trans HGI.out (gb_of_drewN hg3))
      have HF3 := Lib.hid (own_gb HFO.out (gb_of_drewN hg3) (by omega))
      have hrs3 : rb < w3.heap.size := hp_lt hr3
      clear hr3 hg3 hs HPB HRI HFO c0 c1 c2 f1 f2 d0 d3
      cases ok with
      | false =>
        obtain ⟨c0, c1, c2, f1, f2, _⟩ := HR3.out.cells
        obtain ⟨x', hxe⟩ : ∃ x', lxAt xs p = x' := ⟨_, rfl⟩
        have hx := lxAt_some hin
        rw [hxe] at hx
        obtain ⟨_, _, _, _, hlv3, _, hcs3⟩ := HL.out.gb HG3.out (Nat.le_refl _) (by omega)
        injection hlv3 with e1 e2 e3
        subst e1
        obtain ⟨b', off', hA', hb', hcell'⟩ := hcs3 (by omega)
        injection hA' with hA'
        injection hA' with e4 e5
        subst e4 e5
        obtain ⟨k0, k1, k2, k3⟩ := lxs_at xs p x' hx
        have d3 := hcell' _ _ k3
        rw [← Nat.add_assoc] at d3
        have hbs3 : b < w3.heap.size := by omega
        have hrz : r = (acc, 5, x'.off) := by rw [← HPC.out, if_pos rfl, hxe]
        subst hrz
        clear hxe hx hcell' hcs3 k0 k1 k2 k3 hgt
        go_wp2_with (first
          | ((with_reducible refine sp_alloc ?_); intro c9 H9)
          | ((with_reducible refine sp_new y w3.heap.size ?hx rfl ?hy H9 ?_); (case hx => rfl); (case hy => rfl)))
        go_quiet (fail)
        go_wp2_with fail
        go_ret2
        exact ⟨rfl, p, fv, HR3.out.alloc _, World.ownsRow.alloc HF3.out _, gb_drewN (gb_alloc HG3.out _) _⟩
      | true =>
        go_wp2_with (first
          | ((with_reducible refine sp_alloc ?_); intro c9 H9)
          | ((with_reducible refine sp_new y w3.heap.size ?hx rfl ?hy H9 ?_); (case hx => rfl); (case hy => rfl)))
        obtain ⟨N, hN⟩ : ∃ N, w3.heap.size = N := ⟨_, rfl⟩
        obtain ⟨W1, hW1⟩ : ∃ W1, w3.alloc (.cells (spCells y).toArray 26) = W1 := ⟨_, rfl⟩
        have hr1 : IsRdr W1 rb (.slice (some ⟨b, off, none⟩) xs.length cp) p fv := by rw [← hW1]; exact HR3.out.alloc _
        have hg1 : w.grownBy W1 (some rb) := by rw [← hW1]; exact gb_alloc HG3.out _
        have hf1 : OwnsSp W1 w.heap.size fv acc := by rw [← hW1]; exact World.ownsRow.alloc HF3.out _
        have hn1 : W1.heap[N]? = some (.cells (spCells y).toArray 26 (0, 0)) := by rw [← hW1, ← hN]; exact heap_alloc_last w3 _
        have hz1 : W1.heap.size = N + 1 := by rw [← hW1, World.size_alloc, hN]
        rw [hW1, hN]
        obtain ⟨c0, c1, c2, f1, f2, _⟩ := hr1.cells
        have hrn : rb < N := by omega
        have hwn : w.heap.size ≤ N := by have := HG3.out.size; omega
        have hob : fv.ownBlock ≠ some rb ∧ fv.ownBlock ≠ some N := own_ne HF3.out (by omega) (by omega)
        obtain ⟨i0, hi0, hq0, hq1, hq2⟩ := info_parts info_sp
        have HR1 := Lib.hid hr1
        have HG1 := Lib.hid hg1
        have HF1 := Lib.hid hf1
        have HN1 := Lib.hid hn1
        have HZ1 := Lib.hid hz1
        have HOB := Lib.hid hob
        have hrz : rb < W1.heap.size := by omega
        clear hr1 hg1 hf1 hn1 hN hW1 HR3 HG3 HF3 hz1 hob
        have hcs := sp_held HN1.out
        go_region_law
          ((refine step_append_lies _ (by rfl) _ _ 22 (by rfl) w.heap.size 26 i0 _ 13 112 Tryd.underlying22 hi0 hq0 hq1 hq2 rfl (by omega) fv acc.length (spsCells acc) (by rfl) (OwnsSp.next HF1.out)
                ⟨W1.heap.size, 0, none⟩ 1 1 (spCells y) (by rfl) (by rfl) (World.news_of_block (cs := (spCells y).toArray) (t := 26) (fr := (0, 0)) (heap_alloc_last W1 _)) (sp_mem y)
                (by omega) (by simp only [maxLen]; omega) (by omega) (sz_next HZ1.out (by omega)) (W1.heap.size + 1) sz_eq ?_; intro gg cap w5 hown5 hgrow hat hlt; have c25 := rdr_next2 HR1.out hgrow HOB.out.1; have f25 := rdr_next3 HR1.out hgrow HOB.out.1))
        all_goals
          obtain ⟨W6, hW6⟩ : ∃ W6, w5.setCell ⟨rb, 2, none⟩ (.slice (some ⟨gg, 0, none⟩) (acc.length + 1) cap) = W6 := ⟨_, rfl⟩
          have hr5 := rdr_next HR1.out hgrow HOB.out.1
          have hr6 : IsRdr W6 rb (.slice (some ⟨b, off, none⟩) xs.length cp) p (.slice (some ⟨gg, 0, none⟩) (acc.length + 1) cap) := by rw [← hW6]; exact hr5.found _
          have ho6 : OwnsSp W6 w.heap.size (.slice (some ⟨gg, 0, none⟩) (acc.length + 1) cap) (acc ++ [y]) := by rw [← hW6]; exact own_found hown5 hrb
          have hg6 : w.grownBy W6 (some rb) := by rw [← hW6]; exact gb_set (gb_own (gb_drew (gb_alloc HG1.out _)) hgrow (own_ge HF1.out)) _
          rw [hW6]
          obtain ⟨c0', c1', c2', f1', f2', hrb6⟩ := hr6.cells
          have hrd6 : RdSp W6 (.slice (some ⟨gg, 0, none⟩) (acc.length + 1) cap) (acc ++ [y]) := Rd.of_own ho6
          have HR6 := Lib.hid hr6
          have HO6 := Lib.hid ho6
          have HG6 := Lib.hid hg6
          have HRD6 := Lib.hid hrd6
          have hkp : k < p := hgt trivial
          have HPD := Lib.hid (show (if checkSp (acc ++ [y]) ≠ 0 then (acc ++ [y], checkSp (acc ++ [y]), x.off) else parseAll xs n' p (acc ++ [y])) = r from HPC.out)
          have HNM6 := Lib.hid (show ∀ z ∈ acc ++ [y], z.name.length ≤ 100000 from fun z hz => by
            rcases List.mem_append.1 hz with hz | hz
            · exact HNM.out z hz
            · rw [List.mem_singleton.1 hz]; exact hyn)
          have hal : (acc ++ [y]).length ≤ p := by rw [List.length_append]; simp only [List.length_cons, List.length_nil]; omega
          clear hcs hr5 hr6 ho6 hg6 hrd6 hW6 c25 f25 hown5 hgrow hat hlt c0 c1 c2 f1 f2 HR1 HG1 HF1 HN1 HOB HPC hgt hi0 hq0 hq1 hq2
          go_wp2_with fail
          refine (check_any (acc ++ [y]) _ _ HRD6.out (fun z hz => Nat.le_trans (HNM6.out z hz) (by omega))).mono ?_
          rintro e w7 ⟨he, hb7⟩
          obtain ⟨q, hq⟩ : ∃ q, checkSp (acc ++ [y]) = q := ⟨_, rfl⟩
          rw [hq] at he
          subst he
          have HB7 := Lib.hid hb7
          have HQ := Lib.hid hq
          clear hb7 hq
          by_cases hq0 : q = 0
          · subst hq0
            go_wp2_with fail
            exact ⟨⟨n', p, _, acc ++ [y], hin, by omega, HR6.out.below HB7.out hrb6, ownsRow_below HO6.out HB7.out, gb_below HG6.out HB7.out, by have h9 := HPD.out; rw [if_neg (by rw [HQ.out]; simp)] at h9; exact h9, hal, HNM6.out, HQ.out⟩, by rw [rdrPos_of (HR6.out.below HB7.out hrb6), HPOS.out]; omega⟩
          · have hrz : r = (acc ++ [y], q, x.off) := by rw [← HPD.out, if_pos (by rw [HQ.out]; exact hq0), HQ.out]
            subst hrz
            have hqb : (q != 0) = true := by rw [bne_iff_ne]; exact hq0
            clear hq0
            go_wp2_with fail
            go_ret2
            exact ⟨rfl, p, _, HR6.out.below HB7.out hrb6, ownsRow_below HO6.out HB7.out, gb_below HG6.out HB7.out⟩

end Go.Proofs.YtadflenmdfcflaaDoor
