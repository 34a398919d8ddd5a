/-
  The walk of TopKiln.
-/
import Derived.Test.YthineckpociomaaDoorKiY
import Derived.Test.YthineckpociomaaDoorKiU
namespace Go.Proofs.YthineckpociomaaDoor
open Go.RowKit Saw Go.Sort

section
variable {W : World} {n : Nat} {l : List Bd} {s : Sp} {sc : Sc} {fs : List Fa} {t : Int} {A A2 A3 : Option Addr} {c c2 c3 : Nat}
/-- The block of the boxed argument. -/
def KnB (W : World) (n : Nat) (l : List Bd) (s : Sp) (sc : Sc) (fs : List Fa) (t : Int) (A : Option Addr) (c : Nat) (A2 : Option Addr) (c2 : Nat) (A3 : Option Addr) (c3 : Nat) : Prop :=
  W.heap[n]? = some (.cells #[.slice A l.length c, .string (str s.name), .int .i64 s.green, .int .i64 s.fast, .int .i64 s.slow, .int .i64 s.safe, .int .i64 s.grad, .int .i64 s.crack, .int .i64 s.temp, .int .i64 s.depress, .int .i64 s.density, .int .i64 s.stiff, .int .i64 s.knots, .int .i64 s.shrink, .string (str sc.name), .int .i64 sc.ramp, .slice A2 sc.stages.length c2, .slice A3 fs.length c3, .int .i64 t] 30 (0, 0))
theorem KnB.lt (h : KnB W n l s sc fs t A c A2 c2 A3 c3) : n < W.heap.size := (Array.getElem?_eq_some_iff.1 h).1
theorem KnB.next {W' : World} (h : KnB W n l s sc fs t A c A2 c2 A3 c3) (hb : Below W.heap.size W W') : KnB W' n l s sc fs t A c A2 c2 A3 c3 := (hb.block _ h.lt).trans h
theorem KnB.cells (h : KnB W n l s sc fs t A c A2 c2 A3 c3) : W.cell? ⟨n, 0, none⟩ = some (.slice A l.length c) ∧ W.cell? ⟨n, 1, none⟩ = some (.string (str s.name)) ∧ W.cell? ⟨n, 6, none⟩ = some (.int .i64 s.grad) ∧ W.cell? ⟨n, 8, none⟩ = some (.int .i64 s.temp) ∧ W.cell? ⟨n, 9, none⟩ = some (.int .i64 s.depress) ∧ W.cell? ⟨n, 14, none⟩ = some (.string (str sc.name)) ∧ W.cell? ⟨n, 16, none⟩ = some (.slice A2 sc.stages.length c2) ∧ W.cell? ⟨n, 17, none⟩ = some (.slice A3 fs.length c3) ∧ W.cell? ⟨n, 18, none⟩ = some (.int .i64 t) :=
  ⟨cell_of_row W n 0 _ _ _ h, cell_of_row W n 1 _ _ _ h, cell_of_row W n 6 _ _ _ h, cell_of_row W n 8 _ _ _ h, cell_of_row W n 9 _ _ _ h, cell_of_row W n 14 _ _ _ h, cell_of_row W n 16 _ _ _ h, cell_of_row W n 17 _ _ _ h, cell_of_row W n 18 _ _ _ h⟩
theorem KnB.sp (h : KnB W n l s sc fs t A c A2 c2 A3 c3) : W.rangeAt n 1 (spCells s) := fun i v hv => by
  have hi : i < 13 := (List.getElem?_eq_some_iff.1 hv).1
  rw [cell_of_row W n (1 + i) _ _ _ h]
  match i, hi with
  | 0, _ => exact hv
  | 1, _ => exact hv
  | 2, _ => exact hv
  | 3, _ => exact hv
  | 4, _ => exact hv
  | 5, _ => exact hv
  | 6, _ => exact hv
  | 7, _ => exact hv
  | 8, _ => exact hv
  | 9, _ => exact hv
  | 10, _ => exact hv
  | 11, _ => exact hv
  | 12, _ => exact hv
theorem KnB.scr (h : KnB W n l s sc fs t A c A2 c2 A3 c3) : W.rangeAt n 14 (scCells sc (.slice A2 sc.stages.length c2)) := fun i v hv => by
  have hi : i < 3 := (List.getElem?_eq_some_iff.1 hv).1
  rw [cell_of_row W n (14 + i) _ _ _ h]
  match i, hi with
  | 0, _ => exact hv
  | 1, _ => exact hv
  | 2, _ => exact hv
end

theorem wp_allocZ {P : Program} {d : Option Tmp} {t ty : TypeId} {pos : String} {af : Array Edge} {a : Act} {w : World} {K : Act → World → Prop} {Q : Exit → Act → World → Prop} {z : Array Value}
    (hz : ((P.info? t).bind (·.zero)) = some (.agg z)) (h : ∀ c : Array Value, c = z → K (a.put d (.pointer (some ⟨w.heap.size, 0, none⟩))) (w.alloc (.cells c t))) : Oper.wp P ⟨d, .alloc t, ty, pos, af, none⟩ a w K Q := by
  unfold Oper.wp execOp
  cases hi : P.info? t with
  | none => simp [hi] at hz
  | some i =>
    simp only [hi, Option.bind_some] at hz
    have hzz : (zeroValue t).run P w = .ok (.agg z) w := by simp [zeroValue, typeInfo, hi, hz]
    have hr : (Instr.alloc t true (.tuple #[])).run P w = .ok (.pointer (some ⟨w.heap.size, 0, none⟩)) (w.alloc (.cells z t)) := by
      simp [Instr.alloc, hzz, newVar, newRow, Value.cells]
    simp only [Sem.run_bind, hr, Result.andThen_ok]
    exact h _ rfl
set_option maxRecDepth 100000 in
theorem wp_allocBo {d : Option Tmp} {ty : TypeId} {pos : String} {af : Array Edge} {a : Act} {w : World} {K : Act → World → Prop} {Q : Exit → Act → World → Prop} {Y : Nat → Option Bool} {E : Prop} (hw : Region.wanted ⟨d, .alloc 40, ty, pos, af, none⟩ Y = true)
    (h : ∀ c : Array Value, Hid (c.size = 18) → K (a.put d (.pointer (some ⟨w.heap.size, 0, none⟩))) (w.alloc (.cells c 40))) : if Region.wanted ⟨d, .alloc 40, ty, pos, af, none⟩ Y = true then Oper.wp Tryd.prog ⟨d, .alloc 40, ty, pos, af, none⟩ a w K Q else E := by
  rw [if_pos hw]
  exact wp_allocZ bo_zero fun c hc => h c (Lib.hid (by rw [hc]; rfl))
set_option maxRecDepth 100000 in
theorem wp_putBo {d : Option Tmp} {ty : TypeId} {pos : String} {af : Array Edge} {p q : Operand} {a : Act} {w : World} {K : Act → World → Prop} {Q : Exit → Act → World → Prop} {Y : Nat → Option Bool} {E : Prop} (g : Nat) (x : Bd) (hw : Region.wanted ⟨d, .store 40 p q, ty, pos, af, none⟩ Y = true) (hx : a.eval p = .pointer (some ⟨g, 0, none⟩)) (hy : a.eval q = .agg (boCells x).toArray) {old : Array Value} {t' : TypeId} (hg : w.heap[g]? = some (.cells old t' (0, 0))) (hs : Hid (old.size = 18))
    (h : K (a.put d undef) (w.setRow g (boCells x).toArray)) : if Region.wanted ⟨d, .store 40 p q, ty, pos, af, none⟩ Y = true then Oper.wp Tryd.prog ⟨d, .store 40 p q, ty, pos, af, none⟩ a w K Q else E := by
  rw [if_pos hw]
  exact wp_store_row 40 p q rfl g (boCells x).toArray hx hy t' old hg bo_info (hs.out.trans (bo_size x).symm) (by have h1 := bo_one x; rw [Array.all_toList] at h1; exact h1) h
set_option maxRecDepth 100000 in
set_option maxHeartbeats 16000000 in
theorem topKiln_core (l : List Bd) (s : Sp) (sc : Sc) (fs : List Fa) (t : Int) (A : Option Addr) (c : Nat) (A2 : Option Addr) (c2 : Nat) (A3 : Option Addr) (c3 : Nat) (f : Int) (w : World) (hrd : RdBo w (.slice A l.length c) l) (hst : RdSt w w.heap.size (.slice A2 sc.stages.length c2) sc.stages) (hfa : RdFa w w.heap.size (.slice A3 fs.length c3) fs)
    (hbi : ∀ b ∈ l, BdI b ∧ DfOk w w.heap.size (.slice b.da b.dn b.dc) b.dn ∧ (str b.species).size ≤ 9223372036854775807) (hn1 : (str s.name).size ≤ 9223372036854775807) (hn2 : (str sc.name).size ≤ 9223372036854775807) (hv : VarsK w) :
    Calls Tryd.prog 3 #[.agg #[.slice A l.length c, .string (str s.name), .int .i64 s.green, .int .i64 s.fast, .int .i64 s.slow, .int .i64 s.safe, .int .i64 s.grad, .int .i64 s.crack, .int .i64 s.temp, .int .i64 s.depress, .int .i64 s.density, .int .i64 s.stiff, .int .i64 s.knots, .int .i64 s.shrink, .string (str sc.name), .int .i64 sc.ramp, .slice A2 sc.stages.length c2, .slice A3 fs.length c3, .int .i64 t], .int .i64 f] w (BoolB true w) := by
  have HRD := Lib.hid hrd
  have HST := Lib.hid hst
  have HFA := Lib.hid hfa
  have HBI := Lib.hid hbi
  have HV := Lib.hid hv
  obtain ⟨W1, hW1⟩ : ∃ W1, w.alloc (.cells #[.slice A l.length c, .string (str s.name), .int .i64 s.green, .int .i64 s.fast, .int .i64 s.slow, .int .i64 s.safe, .int .i64 s.grad, .int .i64 s.crack, .int .i64 s.temp, .int .i64 s.depress, .int .i64 s.density, .int .i64 s.stiff, .int .i64 s.knots, .int .i64 s.shrink, .string (str sc.name), .int .i64 sc.ramp, .slice A2 sc.stages.length c2, .slice A3 fs.length c3, .int .i64 t] 30) = W1 := ⟨_, rfl⟩
  obtain ⟨n1, hn1e⟩ : ∃ n, w.heap.size = n := ⟨_, rfl⟩
  have HKN := Lib.hid (show KnB W1 n1 l s sc fs t A c A2 c2 A3 c3 by rw [← hW1, ← hn1e]; exact heap_alloc_last w _)
  have HB1 := Lib.hid (show Below w.heap.size w W1 by rw [← hW1]; exact bel_alloc (Below.refl _ _))
  have HN1 := Lib.hid hn1e
  have HW1 := Lib.hid hW1
  have HAW : Hid (∀ V : World, Below w.heap.size w V → Calls Tryd.prog 4 #[] V fun e w' => e = .returned (.bool true) ∧ Below w.heap.size w w') := Lib.hid (fun V hb => (kilnAwake_any V (HV.out.next hb)).mono fun e w' ⟨he, h2⟩ => ⟨he, hb.trans (h2.mono hb.size)⟩)
  clear hrd hst hfa hbi hv hW1 hn1e
  go_enter Tryd.func3, Tryd.ntmps3
  go_upto_region 1 with fail
  rw [HW1.out, HN1.out]
  obtain ⟨y0, y1, y6, y8, y9, y14, y16, y17, y18⟩ := HKN.out.cells
  have HY := HKN.out.lt
  obtain ⟨q, hq⟩ : ∃ q, IntKind.i64.wrap (((str sc.name).size : Int) + ((str s.name).size : Int)) = q := ⟨_, rfl⟩
  have HN12 := Lib.hid (And.intro hn1 hn2)
  clear hn1 hn2
  by_cases h1 : 12 < l.length
  · clear hq y1 y6 y8 y9 y14 y16 y17 y18
    go_wp2_with fail
    refine (HAW.out _ HB1.out).mono ?_
    rintro e w2 ⟨rfl, hb2⟩
    go_wp2_with fail
    go_ret
    exact ⟨rfl, hb2⟩
  by_cases h2 : 600 < t
  · clear hq y1 y6 y8 y9 y14 y16 y17
    go_wp2_with fail
    refine (HAW.out _ HB1.out).mono ?_
    rintro e w2 ⟨rfl, hb2⟩
    go_wp2_with fail
    go_ret
    exact ⟨rfl, hb2⟩
  by_cases h3 : 20 < fs.length
  · clear hq y1 y6 y8 y9 y14 y16
    go_wp2_with fail
    refine (HAW.out _ HB1.out).mono ?_
    rintro e w2 ⟨rfl, hb2⟩
    go_wp2_with fail
    go_ret
    exact ⟨rfl, hb2⟩
  by_cases h4 : 20 < sc.stages.length
  · clear hq y1 y6 y8 y9 y14
    go_wp2_with fail
    refine (HAW.out _ HB1.out).mono ?_
    rintro e w2 ⟨rfl, hb2⟩
    go_wp2_with fail
    go_ret
    exact ⟨rfl, hb2⟩
  by_cases h5 : 100 < q
  · clear y6 y8 y9
    go_wp2_with fail
    refine (HAW.out _ HB1.out).mono ?_
    rintro e w2 ⟨rfl, hb2⟩
    go_wp2_with fail
    go_ret
    exact ⟨rfl, hb2⟩
  have HM := Lib.hid (And.intro h1 (And.intro h2 (And.intro h3 (And.intro h4 h5))))
  clear y6 y8 y9
  go_wp2_with fail
  clear y0 y1 y14 y16 y17 y18 HY h1 h2 h3 h4 h5 hq
  go_loopw [5] (fun i wr => ∃ k : Nat, k ≤ l.length ∧ i = .int .i64 k ∧ (∀ b ∈ l.take k, b.species.length ≤ 100 ∧ b.dn ≤ 70) ∧ Below W1.heap.size W1 wr) (fun i _ => l.length - (intOf i).toNat)
  case atStart => exact ⟨0, by omega, rfl, by simp, Below.refl _ _⟩
  case round =>
    obtain ⟨k, hk, rfl, hsm, hb⟩ := hrel
    have HBR := Lib.hid hb
    have HB := Lib.hid (HB1.out.trans (hb.mono HB1.out.size))
    have HK := Lib.hid (HKN.out.next hb)
    have hln : l.length ≤ 12 := by have := HM.out.1; omega
    have HSM := Lib.hid hsm
    clear hb hsm
    obtain ⟨y0, y1, y6, y8, y9, y14, y16, y17, y18⟩ := HK.out.cells
    have HY := HK.out.lt
    by_cases hlt : k < l.length
    · have hx : l[k]? = some l[k] := List.getElem?_eq_getElem hlt
      obtain ⟨x, hxe⟩ : ∃ x, l[k] = x := ⟨_, rfl⟩
      rw [hxe] at hx
      have HX := Lib.hid hx
      obtain ⟨b, off, rfl, hbl, hrg⟩ := RdBo.at_ (Rd.next HRD.out HB.out) hx
      have HXI := Lib.hid (HBI.out x (List.mem_of_getElem? hx))
      have e2 : wr.cell? ⟨b, off + k * 18 + 2, none⟩ = some (.string (str x.species)) := hrg 2 _ (boC2 x)
      have e11 : wr.cell? ⟨b, off + k * 18 + 11, none⟩ = some (.slice x.da x.dn x.dc) := hrg 11 _ (boC11 x)
      have hss : (str x.species).size ≤ 9223372036854775807 := HXI.out.2.2
      have hdn : x.dn ≤ 9223372036854775807 := by
        obtain ⟨_, h9, _⟩ := HXI.out.2.1
        have h8 := h9.2.1
        simp only [maxLen] at h8
        omega
      clear hx hxe hrg y1 y6 y8 y9 y14 y16 y17 y18
      by_cases hs : 100 < (str x.species).size
      · go_wp2_with fail
        refine (HAW.out _ HB.out).mono ?_
        rintro e w2 ⟨rfl, hb2⟩
        go_wp2_with fail
        go_ret
        exact ⟨rfl, hb2⟩
      by_cases hd : 70 < x.dn
      · go_wp2_with fail
        refine (HAW.out _ HB.out).mono ?_
        rintro e w2 ⟨rfl, hb2⟩
        go_wp2_with fail
        go_ret
        exact ⟨rfl, hb2⟩
      have HS := Lib.hid (show ∀ b ∈ l.take (k + 1), b.species.length ≤ 100 ∧ b.dn ≤ 70 by
        intro b hb
        rw [List.take_add_one, HX.out] at hb
        rcases List.mem_append.1 hb with hb | hb
        · exact HSM.out b hb
        · obtain rfl : b = x := by simpa using hb
          have h9 := size_str b.species
          exact ⟨by omega, by omega⟩)
      have HBK := Lib.hid (show Below W1.heap.size W1 wr from HBR.out)
      go_wp2_with fail
      exact ⟨⟨k + 1, by omega, by go_num, HS.out, HBK.out⟩, by simp [intOf]; omega⟩
    · have HSA := Lib.hid (show ∀ b ∈ l, b.species.length ≤ 100 ∧ b.dn ≤ 70 by rw [← List.take_of_length_le (show l.length ≤ k by omega)]; exact HSM.out)
      clear y1 y14 y16
      have HD := Lib.hid (show Calls Tryd.prog 5 #[.slice A l.length c, .agg (spCells s).toArray, .agg (scCells sc (.slice A2 sc.stages.length c2)).toArray, .slice A3 fs.length c3, .int .i64 t] wr (DryPost l s sc fs t wr) from dry_any l s sc fs t A c A2 c2 A3 c3 wr (Rd.next HRD.out HB.out) (HST.out.next HB.out) (RdFa.next HFA.out HB.out) (fun b hb => ⟨(HBI.out b hb).1, (HBI.out b hb).2.1.next HB.out, by have := HSA.out b hb; omega⟩) (by have h9 := HN12.out.2; rw [size_str] at h9; exact h9) (by have h9 := HN12.out.1; rw [size_str] at h9; exact h9) (by omega) (by have := HM.out; omega) (HV.out.next HB.out))
      go_wp2_with (first
        | ((with_reducible refine sp_load n1 1 s ?hx HK.out.sp ?_); (case hx => rfl))
        | ((with_reducible refine sc_load n1 14 sc (.slice A2 sc.stages.length c2) ?hx HK.out.scr ?_); (case hx => rfl)))
      refine HD.out.mono ?_
      rintro e w2 ⟨hd1, hd2⟩
      have HTK := Lib.hid hk
      clear y0 y6 y8 y9 y17 y18 HY hk hlt
      by_cases hE : dryE l s sc fs t = 0
      · obtain ⟨Al, cl, r, rfl, hdr, hrd2, hb2⟩ := hd2 hE
        clear hd1 hd2
        have HDK := Lib.hid (dry_ok hE (show l.length ≤ 1024 by omega))
        have HDE := Lib.hid hE
        obtain ⟨F, hF⟩ : ∃ F, runP sc s fs t.toNat (l.map itemP) = F := ⟨_, rfl⟩
        have HFE := Lib.hid hF
        rw [hF] at hdr ⊢
        obtain ⟨a0, ha0⟩ : ∃ x, F.k.ticks = x := ⟨_, rfl⟩
        obtain ⟨a1, ha1⟩ : ∃ x, F.k.held = x := ⟨_, rfl⟩
        obtain ⟨a2, ha2⟩ : ∃ x, F.k.stage = x := ⟨_, rfl⟩
        obtain ⟨a3, ha3⟩ : ∃ x, F.hot.temp = x := ⟨_, rfl⟩
        obtain ⟨a4, ha4⟩ : ∃ x, F.hot.dep = x := ⟨_, rfl⟩
        obtain ⟨a5, ha5⟩ : ∃ x, F.grad = x := ⟨_, rfl⟩
        unfold ruV
        rw [ha0, ha1, ha2, ha3, ha4, ha5]
        have HAS := Lib.hid (And.intro ha0 (And.intro ha1 (And.intro ha2 (And.intro ha3 (And.intro ha4 ha5)))))
        have HDR := Lib.hid hdr
        have HB2 := Lib.hid (HB.out.trans (hb2.mono HB.out.size))
        have HK2 := Lib.hid (HK.out.next hb2)
        have HRD2 := Lib.hid hrd2
        clear hb2 hE hF hdr hrd2 ha0 ha1 ha2 ha3 ha4 ha5
        obtain ⟨W3, hW3⟩ : ∃ W3, w2.alloc (.cells #[.int .i64 a0, .int .i64 a1, .int .i64 a2, .int .i64 a3, .int .i64 a4, .int .i64 a5] 44) = W3 := ⟨_, rfl⟩
        obtain ⟨nr, hnr⟩ : ∃ n, w2.heap.size = n := ⟨_, rfl⟩
        have HRO := Lib.hid (show W3.heap[nr]? = some (.cells #[.int .i64 a0, .int .i64 a1, .int .i64 a2, .int .i64 a3, .int .i64 a4, .int .i64 a5] 44 (0, 0)) by rw [← hW3, ← hnr]; exact heap_alloc_last w2 _)
        have HB23 := Lib.hid (show Below w2.heap.size w2 W3 by rw [← hW3]; exact bel_alloc (Below.refl _ _))
        have HB3 := Lib.hid (HB2.out.trans (HB23.out.mono HB2.out.size))
        have HK3 := Lib.hid (HK2.out.next HB23.out)
        have HRD3 := Lib.hid (show RdBo W3 (.slice Al l.length cl) r from Rd.next HRD2.out HB23.out)
        have HWN := Lib.hid (And.intro hW3 hnr)
        clear hW3 hnr
        go_upto_region 11 with fail
        rw [HWN.out.1, HWN.out.2]
        obtain ⟨y0, y1, y6, y8, y9, y14, y16, y17, y18⟩ := HK3.out.cells
        have HY := HK3.out.lt
        clear y0 y1 y8 y9 y14 y16 y17 y18
        go_wp2_with fail
        clear y6 HY
        go_loopw [9, 10] (fun mv iv wx => ∃ (k : Nat) (M : Int), k ≤ l.length ∧ mv = .int .i64 M ∧ iv = .int .i64 k ∧ s.grad ≤ M ∧ (∀ b ∈ l.take k, gradP b.cl ≤ M) ∧ Below W3.heap.size W3 wx) (fun _ iv _ => l.length - (intOf iv).toNat)
        case atStart => exact ⟨0, s.grad, by omega, rfl, rfl, by omega, by simp, Below.refl _ _⟩
        case round =>
          obtain ⟨k2, M, hk2, rfl, rfl, hM, hMs, hb⟩ := hrel
          have HBR2 := Lib.hid hb
          have HB4 := Lib.hid (HB3.out.trans (hb.mono HB3.out.size))
          have HK4 := Lib.hid (HK3.out.next hb)
          have HMS := Lib.hid (And.intro hM hMs)
          clear hb hM hMs
          obtain ⟨y0, y1, y6, y8, y9, y14, y16, y17, y18⟩ := HK4.out.cells
          have HY := HK4.out.lt
          clear y1 y6 y14 y16
          by_cases hlt : k2 < l.length
          · have hx : l[k2]? = some l[k2] := List.getElem?_eq_getElem hlt
            obtain ⟨x, hxe⟩ : ∃ x, l[k2] = x := ⟨_, rfl⟩
            rw [hxe] at hx
            have HX := Lib.hid hx
            obtain ⟨b, off, rfl, hbl, hrg⟩ := RdBo.at_ (Rd.next HRD.out HB4.out) hx
            have e13 : wr.cell? ⟨b, off + k2 * 18 + 13, none⟩ = some (.int .i64 x.surf) := hrg 13 _ (boC13 x)
            have e14 : wr.cell? ⟨b, off + k2 * 18 + 14, none⟩ = some (.int .i64 x.core) := hrg 14 _ (boC14 x)
            have e15 : wr.cell? ⟨b, off + k2 * 18 + 15, none⟩ = some (.int .i64 x.stress) := hrg 15 _ (boC15 x)
            obtain ⟨g, hg⟩ : ∃ g, gradP x.cl = g := ⟨_, rfl⟩
            have HG : Hid (∀ V : World, Calls Tryd.prog 6 #[.agg #[.int .i64 x.surf, .int .i64 x.core, .int .i64 x.stress]] V fun e w' => e = .returned (.int .i64 g) ∧ Below V.heap.size V w') := Lib.hid (fun V => hg ▸ gradient_any x.cl V)
            have HGE := Lib.hid hg
            clear hx hxe hrg y8 y9 y17 y18 hg
            go_wp2_with fail
            refine (HG.out _).mono ?_
            rintro e w5 ⟨rfl, hb5⟩
            have HB5 := Lib.hid (HBR2.out.trans (hb5.mono HBR2.out.size))
            obtain ⟨M2, hM2⟩ : ∃ M2, max M g = M2 := ⟨_, rfl⟩
            have HS := Lib.hid (show s.grad ≤ M2 ∧ ∀ b ∈ l.take (k2 + 1), gradP b.cl ≤ M2 by
              refine ⟨by have := HMS.out.1; omega, fun b hb => ?_⟩
              rw [List.take_add_one, HX.out] at hb
              rcases List.mem_append.1 hb with hb | hb
              · have := HMS.out.2 b hb; omega
              · obtain rfl : b = x := by simpa using hb
                have := HGE.out; omega)
            clear hb5 e13 e14 e15
            go_wp2_with fail
            exact ⟨⟨k2 + 1, M2, by omega, rfl, by go_num, HS.out.1, HS.out.2, HB5.out⟩, by simp [intOf]; omega⟩
          · have HRN := Lib.hid (show RunOk l s M t F by rw [← HFE.out]; exact run_ok HDK.out HMS.out.1 (fun b hb => HMS.out.2 b (by rw [List.take_of_length_le (by omega)]; exact hb)))
            rename World => wb
            have ht0 : 0 ≤ a0 ∧ a0 ≤ t := by have h9 := HRN.out.ticks; rw [HAS.out.1] at h9; exact h9
            have ht3 : a3 ≤ s.temp := by have h9 := HRN.out.temp; rw [HAS.out.2.2.2.1] at h9; exact h9
            have ht4 : a4 ≤ s.depress := by have h9 := HRN.out.dep; rw [HAS.out.2.2.2.2.1] at h9; exact h9
            have ht5 : a5 ≤ M := by have h9 := HRN.out.grad; rw [HAS.out.2.2.2.2.2] at h9; exact h9
            obtain ⟨ht0, ht1⟩ := ht0
            have hro : wb.heap[nr]? = some (.cells #[.int .i64 a0, .int .i64 a1, .int .i64 a2, .int .i64 a3, .int .i64 a4, .int .i64 a5] 44 (0, 0)) := (HBR2.out.block _ (Array.getElem?_eq_some_iff.1 HRO.out).1).trans HRO.out
            have r0 := cell_of_row wb nr 0 _ _ _ hro
            have r3 := cell_of_row wb nr 3 _ _ _ hro
            have r4 := cell_of_row wb nr 4 _ _ _ hro
            have r5 := cell_of_row wb nr 5 _ _ _ hro
            have HRO4 := Lib.hid hro
            have hnr := (Array.getElem?_eq_some_iff.1 hro).1
            have hrl : r.length = l.length := by rw [HDR.out.1, HRN.out.len]
            have HRD4 := Lib.hid (show RdBo wb (.slice Al l.length cl) r from Rd.next HRD3.out HBR2.out)
            have HRL := Lib.hid hrl
            clear hro hrl y17
            go_wp2_with fail
            clear r0 r3 r4 r5 ht0 ht1 ht3 ht4 ht5 y0 y8 y9 y18 hlt hk2
            go_loopw [11] (fun iv wx => ∃ k : Nat, k ≤ l.length ∧ iv = .int .i64 k ∧ Below wb.heap.size wb wx) (fun iv _ => l.length - (intOf iv).toNat)
            case atStart => exact ⟨0, by omega, rfl, Below.refl _ _⟩
            case round =>
              obtain ⟨k3, hk3, rfl, hb⟩ := hrel
              have HBR3 := Lib.hid hb
              have HB5 := Lib.hid (HB4.out.trans (hb.mono HB4.out.size))
              have HK5 := Lib.hid (HK4.out.next hb)
              have HRD5 := Lib.hid (show RdBo wr (.slice Al l.length cl) r from Rd.next HRD4.out hb)
              clear hb
              obtain ⟨y0, y1, y6, y8, y9, y14, y16, y17, y18⟩ := HK5.out.cells
              have HY := HK5.out.lt
              clear y1 y6 y8 y9 y14 y16
              by_cases hlt : k3 < l.length
              · have hx : l[k3]? = some l[k3] := List.getElem?_eq_getElem hlt
                obtain ⟨x, hxe⟩ : ∃ x, l[k3] = x := ⟨_, rfl⟩
                rw [hxe] at hx
                obtain ⟨y, hy1, hy2, hy3⟩ := HRN.out.at_ k3 x hx
                obtain ⟨Az, cz, hz⟩ := HDR.out.2 k3 x _ hx hy1
                obtain ⟨b, off, rfl, hbl, hrg⟩ := RdBo.at_ (Rd.next HRD.out HB5.out) hx
                obtain ⟨bz, oz, rfl, hbz, hrz⟩ := RdBo.at_ HRD5.out hz
                obtain ⟨z, hze⟩ : ∃ z, driedB x Az cz y = z := ⟨_, rfl⟩
                simp only at hz hrz
                rw [hze] at hz hrz
                have HRX := Lib.hid hrg
                have HRZ := Lib.hid hrz
                have HYS := Lib.hid (And.intro hy2 hy3)
                have HZE := Lib.hid hze
                have HX := Lib.hid hx
                clear hx hxe hy1 hy2 hy3 hz hrg hrz hze y17 y18
                go_upto_region 21 with fail
                obtain ⟨N, hN⟩ : ∃ N, wr.heap.size = N := ⟨_, rfl⟩
                have HNN := Lib.hid hN
                have HSS : Hid (∀ V : World, Below wr.heap.size wr V → V.rangeAt b (off + k3 * 18) (boCells x) ∧ V.rangeAt bz (oz + k3 * 18) (boCells z) ∧ V.cell? ⟨n1, 0, none⟩ = some (.slice (some ⟨b, off, none⟩) l.length c)) := Lib.hid (fun V hb => ⟨rangeAt_below hb hbl HRX.out, rangeAt_below hb hbz HRZ.out, (hb.cell (p := ⟨n1, 0, none⟩) HK5.out.lt).trans y0⟩)
                have HD0 := Lib.hid (show Below wr.heap.size wr wr.drew from bel_drew (Below.refl _ _))
                clear y0 hN
                refine wp_region_held_drew (S := fun V : World => V.rangeAt b (off + k3 * 18) (boCells x) ∧ V.rangeAt bz (oz + k3 * 18) (boCells z) ∧ V.cell? ⟨n1, 0, none⟩ = some (.slice (some ⟨b, off, none⟩) l.length c)) (by kernel_rfl) (HSS.out _ HD0.out) (fun hS => ?_)
                clear hS
                refine wpAnyH_take (i := 0) (v := ?_) rfl (by kernel_rfl) (by kernel_rfl) (by kernel_rfl) (fun _ _ _ h => h) (Or.inl ⟨by rfl, ?_⟩) (HSS.out _ HD0.out) ?_
                rotate_left
                · intro V hSw; go_simp; with_reducible rfl
                simp only [Act.put, List.getElem_toArray, List.getElem_cons_zero, List.setIfInBounds_toArray, List.set_cons_zero, List.set_cons_succ]
                refine wpAnyH_take (i := 1) (v := .slice (some ⟨b, off, none⟩) l.length c) rfl (by kernel_rfl) (by kernel_rfl) (by kernel_rfl) (fun _ _ _ h => h) (Or.inl ⟨by rfl, ?_⟩) (HSS.out _ HD0.out) ?_
                · intro V hSw; have y0 := hSw.2.2; go_simp; try with_reducible rfl
                simp only [Act.put, List.getElem_toArray, List.getElem_cons_zero, List.getElem_cons_succ, List.setIfInBounds_toArray, List.set_cons_zero, List.set_cons_succ]
                refine wpAnyH_take (i := 2) (v := ?_) rfl (by kernel_rfl) (by kernel_rfl) (by kernel_rfl) (fun _ _ _ h => h) (Or.inl ⟨by rfl, ?_⟩) (HSS.out _ HD0.out) ?_
                rotate_left
                · intro V hSw; go_simp; with_reducible rfl
                simp only [Act.put, List.getElem_toArray, List.getElem_cons_zero, List.getElem_cons_succ, List.setIfInBounds_toArray, List.set_cons_zero, List.set_cons_succ]
                refine wpAnyH_take (i := 3) (v := ?_) rfl (by kernel_rfl) (by kernel_rfl) (by kernel_rfl) (fun _ _ _ h => h) (Or.inl ⟨by rfl, ?_⟩) (HSS.out _ HD0.out) ?_
                rotate_left
                · intro V hSw; go_simp; with_reducible rfl
                simp only [Act.put, List.getElem_toArray, List.getElem_cons_zero, List.getElem_cons_succ, List.setIfInBounds_toArray, List.set_cons_zero, List.set_cons_succ]
                refine wpAnyH_take (i := 4) (v := .agg (boCells x).toArray) rfl (by kernel_rfl) (by kernel_rfl) (by kernel_rfl) (fun _ _ _ h => h) (Or.inl ⟨by rfl, ?_⟩) (HSS.out _ HD0.out) ?_
                · intro V hSw; exact exec_load b (off + k3 * 18) (boCells x) rfl hSw.1 Tryd.underlying40 rfl bo_info
                simp only [Act.put, List.getElem_toArray, List.getElem_cons_zero, List.getElem_cons_succ, List.setIfInBounds_toArray, List.set_cons_zero, List.set_cons_succ]
                refine wpAnyH_take (i := 5) (v := ?_) rfl (by kernel_rfl) (by kernel_rfl) (by kernel_rfl) (fun _ _ _ h => h) (Or.inl ⟨by rfl, ?_⟩) (HSS.out _ HD0.out) ?_
                rotate_left
                · intro V hSw; go_simp; with_reducible rfl
                simp only [Act.put, List.getElem_toArray, List.getElem_cons_zero, List.getElem_cons_succ, List.setIfInBounds_toArray, List.set_cons_zero, List.set_cons_succ]
                refine wpAnyH_take (i := 6) (v := ?_) rfl (by kernel_rfl) (by kernel_rfl) (by kernel_rfl) (fun _ _ _ h => h) (Or.inl ⟨by rfl, ?_⟩) (HSS.out _ HD0.out) ?_
                rotate_left
                · intro V hSw; go_simp; with_reducible rfl
                simp only [Act.put, List.getElem_toArray, List.getElem_cons_zero, List.getElem_cons_succ, List.setIfInBounds_toArray, List.set_cons_zero, List.set_cons_succ]
                refine wpAnyH_take (i := 7) (v := ?_) rfl (by kernel_rfl) (by kernel_rfl) (by kernel_rfl) (fun _ _ _ h => h) (Or.inl ⟨by rfl, ?_⟩) (HSS.out _ HD0.out) ?_
                rotate_left
                · intro V hSw; go_simp; with_reducible rfl
                simp only [Act.put, List.getElem_toArray, List.getElem_cons_zero, List.getElem_cons_succ, List.setIfInBounds_toArray, List.set_cons_zero, List.set_cons_succ]
                refine wpAnyH_take (i := 8) (v := .agg (boCells z).toArray) rfl (by kernel_rfl) (by kernel_rfl) (by kernel_rfl) (fun _ _ _ h => h) (Or.inl ⟨by rfl, ?_⟩) (HSS.out _ HD0.out) ?_
                · intro V hSw; exact exec_load bz (oz + k3 * 18) (boCells z) rfl hSw.2.1 Tryd.underlying40 rfl bo_info
                simp only [Act.put, List.getElem_toArray, List.getElem_cons_zero, List.getElem_cons_succ, List.setIfInBounds_toArray, List.set_cons_zero, List.set_cons_succ]
                refine wpAnyH_ready (rs := [9, 10]) (by kernel_rfl) (by simp) ?_
                refine AllReadyH.cons rfl (fun K hK => ?_) (AllReadyH.cons rfl (fun K hK => ?_) AllReadyH.nil)
                · refine wp_allocBo (by rfl) fun c5 Hc5 => ?_
                  rw [show (World.drew wr).heap.size = N from HNN.out]
                  obtain ⟨V1, hV1⟩ : ∃ V1, (World.drew wr).alloc (.cells c5 40) = V1 := ⟨_, rfl⟩
                  have HE1 := Lib.hid hV1
                  have HZ1 := Lib.hid (show V1.heap.size = N + 1 by rw [← hV1, World.size_alloc]; exact congrArg (· + 1) HNN.out)
                  have HL1 := Lib.hid (show V1.heap[N]? = some (.cells c5 40 (0, 0)) by rw [← hV1, ← HNN.out]; exact heap_alloc_last (World.drew wr) _)
                  have HD1 := Lib.hid (show Below wr.heap.size wr V1 by rw [← hV1]; exact bel_alloc HD0.out)
                  rw [hV1]
                  clear hV1
                  refine hK.out _ _ (HSS.out _ HD1.out) (fun _ => ?_)
                  clear hK K
                  simp only [Act.put, List.setIfInBounds_toArray, List.set_cons_zero, List.set_cons_succ]
                  refine wpAnyH_ready (rs := [10]) (by kernel_rfl) (by simp) ?_
                  refine AllReadyH.cons rfl (fun K hK => ?_) AllReadyH.nil
                  refine wp_allocBo (by rfl) fun c6 Hc6 => ?_
                  rw [HZ1.out]
                  obtain ⟨V2, hV2⟩ : ∃ V2, V1.alloc (.cells c6 40) = V2 := ⟨_, rfl⟩
                  have HL2 := Lib.hid (show V2.heap[N + 1]? = some (.cells c6 40 (0, 0)) by rw [← hV2, ← HZ1.out]; exact heap_alloc_last V1 _)
                  have HM2 := Lib.hid (show V2.heap[N]? = some (.cells c5 40 (0, 0)) by rw [← hV2]; exact (Below.heap_alloc _ _ _ (by rw [HZ1.out]; omega)).trans HL1.out)
                  have HD2 := Lib.hid (show Below wr.heap.size wr V2 by rw [← hV2]; exact bel_alloc HD1.out)
                  rw [hV2]
                  clear hV2
                  refine hK.out _ _ (HSS.out _ HD2.out) (fun _ => ?_)
                  clear hK K
                  simp only [Act.put, List.setIfInBounds_toArray, List.set_cons_zero, List.set_cons_succ]
                  refine wpAnyH_ready (rs := [11]) (by kernel_rfl) (by simp) ?_
                  refine AllReadyH.cons rfl (fun K hK => ?_) AllReadyH.nil
                  refine wp_putBo N x (by rfl) rfl rfl HM2.out Hc5 ?_
                  have HL3 := Lib.hid (show (V2.setRow N (boCells x).toArray).heap[N]? = some (.cells (boCells x).toArray 40 (0, 0)) from setRow_heap _ _ _ _ _ _ HM2.out)
                  have HM3 := Lib.hid (show (V2.setRow N (boCells x).toArray).heap[(N + 1)]? = some (.cells c6 40 (0, 0)) from (setRow_other _ _ _ _ (by omega)).trans HL2.out)
                  have HD3 := Lib.hid (show Below wr.heap.size wr (V2.setRow N (boCells x).toArray) from HD2.out.setRow (by rw [HNN.out]; omega) _)
                  obtain ⟨V3, hV3⟩ : ∃ V3, V2.setRow N (boCells x).toArray = V3 := ⟨_, rfl⟩
                  rw [hV3] at HL3 HM3 HD3 ⊢
                  clear hV3
                  refine hK.out _ _ (HSS.out _ HD3.out) (fun _ => ?_)
                  clear hK K
                  simp only [Act.put]
                  refine wpAnyH_ready (rs := [12]) (by kernel_rfl) (by simp) ?_
                  refine AllReadyH.cons rfl (fun K hK => ?_) AllReadyH.nil
                  refine wp_putBo (N + 1) z (by rfl) rfl rfl HM3.out Hc6 ?_
                  have HZ4 := Lib.hid (show (V3.setRow (N + 1) (boCells z).toArray).heap[(N + 1)]? = some (.cells (boCells z).toArray 40 (0, 0)) from setRow_heap _ _ _ _ _ _ HM3.out)
                  have HX4 := Lib.hid (show (V3.setRow (N + 1) (boCells z).toArray).heap[N]? = some (.cells (boCells x).toArray 40 (0, 0)) from (setRow_other _ _ _ _ (by omega)).trans HL3.out)
                  have HD4 := Lib.hid (show Below wr.heap.size wr (V3.setRow (N + 1) (boCells z).toArray) from HD3.out.setRow (by rw [HNN.out]; omega) _)
                  obtain ⟨V4, hV4⟩ : ∃ V4, V3.setRow (N + 1) (boCells z).toArray = V4 := ⟨_, rfl⟩
                  rw [hV4] at HZ4 HX4 HD4 ⊢
                  clear hV4
                  refine hK.out _ _ (HSS.out _ HD4.out) (fun _ => ?_)
                  clear hK K
                  simp only [Act.put]
                  refine wpAnyH_done (by kernel_rfl) ?_ _
                  have HG : Hid (∀ V : World, Calls Tryd.prog 6 #[.agg #[.int .i64 y.surf, .int .i64 y.core, .int .i64 y.stress]] V fun e w' => e = .returned (.int .i64 (gradP y)) ∧ Below V.heap.size V w') := Lib.hid (fun V => gradient_any y V)
                  have hz4 := HZ4.out
                  rw [← HZE.out] at hz4
                  have HZ5 := Lib.hid hz4
                  have q13 : V4.cell? ⟨(N + 1), 13, none⟩ = some (.int .i64 y.surf) := cell_of_row V4 (N + 1) 13 _ _ _ hz4
                  have q14 : V4.cell? ⟨(N + 1), 14, none⟩ = some (.int .i64 y.core) := cell_of_row V4 (N + 1) 14 _ _ _ hz4
                  have q15 : V4.cell? ⟨(N + 1), 15, none⟩ = some (.int .i64 y.stress) := cell_of_row V4 (N + 1) 15 _ _ _ hz4
                  have hm4 : (N + 1) < V4.heap.size := (Array.getElem?_eq_some_iff.1 hz4).1
                  have hm5 : N < V4.heap.size := (Array.getElem?_eq_some_iff.1 HX4.out).1
                  clear hz4
                  go_wp2_with fail
                  refine (HG.out _).mono ?_
                  rintro e w9 ⟨rfl, hb9⟩
                  have HBF := Lib.hid (HBR3.out.trans ((HD4.out.trans (hb9.mono HD4.out.size)).mono HBR3.out.size))
                  have hz9 := (hb9.block _ hm4).trans HZ5.out
                  have hx9 := (hb9.block _ hm5).trans HX4.out
                  clear q13 q14 q15 hm4 hm5 hb9
                  have c0 : w9.cell? ⟨N, 0, none⟩ = some (.string (str x.id)) := cell_of_row w9 N 0 _ _ _ hx9
                  have d0 : w9.cell? ⟨(N + 1), 0, none⟩ = some (.string (str x.id)) := cell_of_row w9 (N + 1) 0 _ _ _ hz9
                  have c1 : w9.cell? ⟨N, 1, none⟩ = some (.string (str x.log)) := cell_of_row w9 N 1 _ _ _ hx9
                  have d1 : w9.cell? ⟨(N + 1), 1, none⟩ = some (.string (str x.log)) := cell_of_row w9 (N + 1) 1 _ _ _ hz9
                  have c3 : w9.cell? ⟨N, 3, none⟩ = some (.int .i64 x.product) := cell_of_row w9 N 3 _ _ _ hx9
                  have d3 : w9.cell? ⟨(N + 1), 3, none⟩ = some (.int .i64 x.product) := cell_of_row w9 (N + 1) 3 _ _ _ hz9
                  have c4 : w9.cell? ⟨N, 4, none⟩ = some (.int .i64 x.xa) := cell_of_row w9 N 4 _ _ _ hx9
                  have d4 : w9.cell? ⟨(N + 1), 4, none⟩ = some (.int .i64 x.xa) := cell_of_row w9 (N + 1) 4 _ _ _ hz9
                  have c5 : w9.cell? ⟨N, 5, none⟩ = some (.int .i64 x.xb) := cell_of_row w9 N 5 _ _ _ hx9
                  have d5 : w9.cell? ⟨(N + 1), 5, none⟩ = some (.int .i64 x.xb) := cell_of_row w9 (N + 1) 5 _ _ _ hz9
                  have c6 : w9.cell? ⟨N, 6, none⟩ = some (.int .i64 x.ya) := cell_of_row w9 N 6 _ _ _ hx9
                  have d6 : w9.cell? ⟨(N + 1), 6, none⟩ = some (.int .i64 x.ya) := cell_of_row w9 (N + 1) 6 _ _ _ hz9
                  have c7 : w9.cell? ⟨N, 7, none⟩ = some (.int .i64 x.yb) := cell_of_row w9 N 7 _ _ _ hx9
                  have d7 : w9.cell? ⟨(N + 1), 7, none⟩ = some (.int .i64 x.yb) := cell_of_row w9 (N + 1) 7 _ _ _ hz9
                  have c8 : w9.cell? ⟨N, 8, none⟩ = some (.int .i64 x.za) := cell_of_row w9 N 8 _ _ _ hx9
                  have d8 : w9.cell? ⟨(N + 1), 8, none⟩ = some (.int .i64 x.za) := cell_of_row w9 (N + 1) 8 _ _ _ hz9
                  have c9 : w9.cell? ⟨N, 9, none⟩ = some (.int .i64 x.zb) := cell_of_row w9 N 9 _ _ _ hx9
                  have d9 : w9.cell? ⟨(N + 1), 9, none⟩ = some (.int .i64 x.zb) := cell_of_row w9 (N + 1) 9 _ _ _ hz9
                  have c10 : w9.cell? ⟨N, 10, none⟩ = some (.int .i64 x.volume) := cell_of_row w9 N 10 _ _ _ hx9
                  have d10 : w9.cell? ⟨(N + 1), 10, none⟩ = some (.int .i64 x.volume) := cell_of_row w9 (N + 1) 10 _ _ _ hz9
                  have c12 : w9.cell? ⟨N, 12, none⟩ = some (.int .i64 x.wane) := cell_of_row w9 N 12 _ _ _ hx9
                  have d12 : w9.cell? ⟨(N + 1), 12, none⟩ = some (.int .i64 x.wane) := cell_of_row w9 (N + 1) 12 _ _ _ hz9
                  have c11 : w9.cell? ⟨N, 11, none⟩ = some (.slice x.da x.dn x.dc) := cell_of_row w9 N 11 _ _ _ hx9
                  have d11 : w9.cell? ⟨(N + 1), 11, none⟩ = some (.slice Az x.dn cz) := cell_of_row w9 (N + 1) 11 _ _ _ hz9
                  have c15 : w9.cell? ⟨N, 15, none⟩ = some (.int .i64 x.stress) := cell_of_row w9 N 15 _ _ _ hx9
                  have d15 : w9.cell? ⟨(N + 1), 15, none⟩ = some (.int .i64 y.stress) := cell_of_row w9 (N + 1) 15 _ _ _ hz9
                  have d16 : w9.cell? ⟨(N + 1), 16, none⟩ = some (.bool true) := cell_of_row w9 (N + 1) 16 _ _ _ hz9
                  have hm9 : (N + 1) < w9.heap.size := (Array.getElem?_eq_some_iff.1 hz9).1
                  have hm8 : N < w9.heap.size := (Array.getElem?_eq_some_iff.1 hx9).1
                  obtain ⟨hs1, hs2⟩ := HYS.out
                  obtain ⟨gg, hgg⟩ : ∃ gg, gradP y = gg := ⟨_, rfl⟩
                  rw [hgg] at hs2 ⊢
                  clear hz9 hx9 hgg
                  go_wp2_with fail
                  exact ⟨⟨k3 + 1, by omega, by go_num, HBF.out⟩, by simp [intOf]; omega⟩
                · refine wp_allocBo (by rfl) fun c6 Hc6 => ?_
                  rw [show (World.drew wr).heap.size = N from HNN.out]
                  obtain ⟨V1, hV1⟩ : ∃ V1, (World.drew wr).alloc (.cells c6 40) = V1 := ⟨_, rfl⟩
                  have HE1 := Lib.hid hV1
                  have HZ1 := Lib.hid (show V1.heap.size = N + 1 by rw [← hV1, World.size_alloc]; exact congrArg (· + 1) HNN.out)
                  have HL1 := Lib.hid (show V1.heap[N]? = some (.cells c6 40 (0, 0)) by rw [← hV1, ← HNN.out]; exact heap_alloc_last (World.drew wr) _)
                  have HD1 := Lib.hid (show Below wr.heap.size wr V1 by rw [← hV1]; exact bel_alloc HD0.out)
                  rw [hV1]
                  clear hV1
                  refine hK.out _ _ (HSS.out _ HD1.out) (fun _ => ?_)
                  clear hK K
                  simp only [Act.put, List.setIfInBounds_toArray, List.set_cons_zero, List.set_cons_succ]
                  refine wpAnyH_ready (rs := [9]) (by kernel_rfl) (by simp) ?_
                  refine AllReadyH.cons rfl (fun K hK => ?_) AllReadyH.nil
                  refine wp_allocBo (by rfl) fun c5 Hc5 => ?_
                  rw [HZ1.out]
                  obtain ⟨V2, hV2⟩ : ∃ V2, V1.alloc (.cells c5 40) = V2 := ⟨_, rfl⟩
                  have HL2 := Lib.hid (show V2.heap[N + 1]? = some (.cells c5 40 (0, 0)) by rw [← hV2, ← HZ1.out]; exact heap_alloc_last V1 _)
                  have HM2 := Lib.hid (show V2.heap[N]? = some (.cells c6 40 (0, 0)) by rw [← hV2]; exact (Below.heap_alloc _ _ _ (by rw [HZ1.out]; omega)).trans HL1.out)
                  have HD2 := Lib.hid (show Below wr.heap.size wr V2 by rw [← hV2]; exact bel_alloc HD1.out)
                  rw [hV2]
                  clear hV2
                  refine hK.out _ _ (HSS.out _ HD2.out) (fun _ => ?_)
                  clear hK K
                  simp only [Act.put, List.setIfInBounds_toArray, List.set_cons_zero, List.set_cons_succ]
                  refine wpAnyH_ready (rs := [11]) (by kernel_rfl) (by simp) ?_
                  refine AllReadyH.cons rfl (fun K hK => ?_) AllReadyH.nil
                  refine wp_putBo (N + 1) x (by rfl) rfl rfl HL2.out Hc5 ?_
                  have HL3 := Lib.hid (show (V2.setRow (N + 1) (boCells x).toArray).heap[(N + 1)]? = some (.cells (boCells x).toArray 40 (0, 0)) from setRow_heap _ _ _ _ _ _ HL2.out)
                  have HM3 := Lib.hid (show (V2.setRow (N + 1) (boCells x).toArray).heap[N]? = some (.cells c6 40 (0, 0)) from (setRow_other _ _ _ _ (by omega)).trans HM2.out)
                  have HD3 := Lib.hid (show Below wr.heap.size wr (V2.setRow (N + 1) (boCells x).toArray) from HD2.out.setRow (by rw [HNN.out]; omega) _)
                  obtain ⟨V3, hV3⟩ : ∃ V3, V2.setRow (N + 1) (boCells x).toArray = V3 := ⟨_, rfl⟩
                  rw [hV3] at HL3 HM3 HD3 ⊢
                  clear hV3
                  refine hK.out _ _ (HSS.out _ HD3.out) (fun _ => ?_)
                  clear hK K
                  simp only [Act.put]
                  refine wpAnyH_ready (rs := [12]) (by kernel_rfl) (by simp) ?_
                  refine AllReadyH.cons rfl (fun K hK => ?_) AllReadyH.nil
                  refine wp_putBo N z (by rfl) rfl rfl HM3.out Hc6 ?_
                  have HZ4 := Lib.hid (show (V3.setRow N (boCells z).toArray).heap[N]? = some (.cells (boCells z).toArray 40 (0, 0)) from setRow_heap _ _ _ _ _ _ HM3.out)
                  have HX4 := Lib.hid (show (V3.setRow N (boCells z).toArray).heap[(N + 1)]? = some (.cells (boCells x).toArray 40 (0, 0)) from (setRow_other _ _ _ _ (by omega)).trans HL3.out)
                  have HD4 := Lib.hid (show Below wr.heap.size wr (V3.setRow N (boCells z).toArray) from HD3.out.setRow (by rw [HNN.out]; omega) _)
                  obtain ⟨V4, hV4⟩ : ∃ V4, V3.setRow N (boCells z).toArray = V4 := ⟨_, rfl⟩
                  rw [hV4] at HZ4 HX4 HD4 ⊢
                  clear hV4
                  refine hK.out _ _ (HSS.out _ HD4.out) (fun _ => ?_)
                  clear hK K
                  simp only [Act.put]
                  refine wpAnyH_done (by kernel_rfl) ?_ _
                  have HG : Hid (∀ V : World, Calls Tryd.prog 6 #[.agg #[.int .i64 y.surf, .int .i64 y.core, .int .i64 y.stress]] V fun e w' => e = .returned (.int .i64 (gradP y)) ∧ Below V.heap.size V w') := Lib.hid (fun V => gradient_any y V)
                  have hz4 := HZ4.out
                  rw [← HZE.out] at hz4
                  have HZ5 := Lib.hid hz4
                  have q13 : V4.cell? ⟨N, 13, none⟩ = some (.int .i64 y.surf) := cell_of_row V4 N 13 _ _ _ hz4
                  have q14 : V4.cell? ⟨N, 14, none⟩ = some (.int .i64 y.core) := cell_of_row V4 N 14 _ _ _ hz4
                  have q15 : V4.cell? ⟨N, 15, none⟩ = some (.int .i64 y.stress) := cell_of_row V4 N 15 _ _ _ hz4
                  have hm4 : N < V4.heap.size := (Array.getElem?_eq_some_iff.1 hz4).1
                  have hm5 : (N + 1) < V4.heap.size := (Array.getElem?_eq_some_iff.1 HX4.out).1
                  clear hz4
                  go_wp2_with fail
                  refine (HG.out _).mono ?_
                  rintro e w9 ⟨rfl, hb9⟩
                  have HBF := Lib.hid (HBR3.out.trans ((HD4.out.trans (hb9.mono HD4.out.size)).mono HBR3.out.size))
                  have hz9 := (hb9.block _ hm4).trans HZ5.out
                  have hx9 := (hb9.block _ hm5).trans HX4.out
                  clear q13 q14 q15 hm4 hm5 hb9
                  have c0 : w9.cell? ⟨(N + 1), 0, none⟩ = some (.string (str x.id)) := cell_of_row w9 (N + 1) 0 _ _ _ hx9
                  have d0 : w9.cell? ⟨N, 0, none⟩ = some (.string (str x.id)) := cell_of_row w9 N 0 _ _ _ hz9
                  have c1 : w9.cell? ⟨(N + 1), 1, none⟩ = some (.string (str x.log)) := cell_of_row w9 (N + 1) 1 _ _ _ hx9
                  have d1 : w9.cell? ⟨N, 1, none⟩ = some (.string (str x.log)) := cell_of_row w9 N 1 _ _ _ hz9
                  have c3 : w9.cell? ⟨(N + 1), 3, none⟩ = some (.int .i64 x.product) := cell_of_row w9 (N + 1) 3 _ _ _ hx9
                  have d3 : w9.cell? ⟨N, 3, none⟩ = some (.int .i64 x.product) := cell_of_row w9 N 3 _ _ _ hz9
                  have c4 : w9.cell? ⟨(N + 1), 4, none⟩ = some (.int .i64 x.xa) := cell_of_row w9 (N + 1) 4 _ _ _ hx9
                  have d4 : w9.cell? ⟨N, 4, none⟩ = some (.int .i64 x.xa) := cell_of_row w9 N 4 _ _ _ hz9
                  have c5 : w9.cell? ⟨(N + 1), 5, none⟩ = some (.int .i64 x.xb) := cell_of_row w9 (N + 1) 5 _ _ _ hx9
                  have d5 : w9.cell? ⟨N, 5, none⟩ = some (.int .i64 x.xb) := cell_of_row w9 N 5 _ _ _ hz9
                  have c6 : w9.cell? ⟨(N + 1), 6, none⟩ = some (.int .i64 x.ya) := cell_of_row w9 (N + 1) 6 _ _ _ hx9
                  have d6 : w9.cell? ⟨N, 6, none⟩ = some (.int .i64 x.ya) := cell_of_row w9 N 6 _ _ _ hz9
                  have c7 : w9.cell? ⟨(N + 1), 7, none⟩ = some (.int .i64 x.yb) := cell_of_row w9 (N + 1) 7 _ _ _ hx9
                  have d7 : w9.cell? ⟨N, 7, none⟩ = some (.int .i64 x.yb) := cell_of_row w9 N 7 _ _ _ hz9
                  have c8 : w9.cell? ⟨(N + 1), 8, none⟩ = some (.int .i64 x.za) := cell_of_row w9 (N + 1) 8 _ _ _ hx9
                  have d8 : w9.cell? ⟨N, 8, none⟩ = some (.int .i64 x.za) := cell_of_row w9 N 8 _ _ _ hz9
                  have c9 : w9.cell? ⟨(N + 1), 9, none⟩ = some (.int .i64 x.zb) := cell_of_row w9 (N + 1) 9 _ _ _ hx9
                  have d9 : w9.cell? ⟨N, 9, none⟩ = some (.int .i64 x.zb) := cell_of_row w9 N 9 _ _ _ hz9
                  have c10 : w9.cell? ⟨(N + 1), 10, none⟩ = some (.int .i64 x.volume) := cell_of_row w9 (N + 1) 10 _ _ _ hx9
                  have d10 : w9.cell? ⟨N, 10, none⟩ = some (.int .i64 x.volume) := cell_of_row w9 N 10 _ _ _ hz9
                  have c12 : w9.cell? ⟨(N + 1), 12, none⟩ = some (.int .i64 x.wane) := cell_of_row w9 (N + 1) 12 _ _ _ hx9
                  have d12 : w9.cell? ⟨N, 12, none⟩ = some (.int .i64 x.wane) := cell_of_row w9 N 12 _ _ _ hz9
                  have c11 : w9.cell? ⟨(N + 1), 11, none⟩ = some (.slice x.da x.dn x.dc) := cell_of_row w9 (N + 1) 11 _ _ _ hx9
                  have d11 : w9.cell? ⟨N, 11, none⟩ = some (.slice Az x.dn cz) := cell_of_row w9 N 11 _ _ _ hz9
                  have c15 : w9.cell? ⟨(N + 1), 15, none⟩ = some (.int .i64 x.stress) := cell_of_row w9 (N + 1) 15 _ _ _ hx9
                  have d15 : w9.cell? ⟨N, 15, none⟩ = some (.int .i64 y.stress) := cell_of_row w9 N 15 _ _ _ hz9
                  have d16 : w9.cell? ⟨N, 16, none⟩ = some (.bool true) := cell_of_row w9 N 16 _ _ _ hz9
                  have hm9 : N < w9.heap.size := (Array.getElem?_eq_some_iff.1 hz9).1
                  have hm8 : (N + 1) < w9.heap.size := (Array.getElem?_eq_some_iff.1 hx9).1
                  obtain ⟨hs1, hs2⟩ := HYS.out
                  obtain ⟨gg, hgg⟩ : ∃ gg, gradP y = gg := ⟨_, rfl⟩
                  rw [hgg] at hs2 ⊢
                  clear hz9 hx9 hgg
                  go_wp2_with fail
                  exact ⟨⟨k3 + 1, by omega, by go_num, HBF.out⟩, by simp [intOf]; omega⟩
              · rename World => wc
                have hro := (HBR3.out.block _ (Array.getElem?_eq_some_iff.1 HRO4.out).1).trans HRO4.out
                have HRO5 := Lib.hid hro
                go_upto_region 24 with fail
                clear hro hlt hk3
                by_cases hf0 : f < 0
                · clear y0 y17
                  go_wp2_with fail
                  refine (HAW.out _ HB5.out).mono ?_
                  rintro e w8 ⟨rfl, hb8⟩
                  go_wp2_with fail
                  go_ret
                  exact ⟨rfl, hb8⟩
                by_cases hf1 : t < f
                · clear y0 y17
                  go_wp2_with fail
                  refine (HAW.out _ HB5.out).mono ?_
                  rintro e w8 ⟨rfl, hb8⟩
                  go_wp2_with fail
                  go_ret
                  exact ⟨rfl, hb8⟩
                have HF := Lib.hid (And.intro hf0 hf1)
                have HDF := Lib.hid (dry_fewer HDE.out (show 0 ≤ f by omega) (show f ≤ t by omega))
                have hln : l.length ≤ 12 := by have := HM.out.1; omega
                have HD2 := Lib.hid (show Calls Tryd.prog 5 #[.slice (A) l.length c, .agg (spCells s).toArray, .agg (scCells sc (.slice A2 sc.stages.length c2)).toArray, .slice A3 fs.length c3, .int .i64 f] wc (DryPost l s sc fs f wc) from dry_any l s sc fs f A c A2 c2 A3 c3 wc (Rd.next HRD.out HB5.out) (HST.out.next HB5.out) (RdFa.next HFA.out HB5.out) (fun b hb => ⟨(HBI.out b hb).1, (HBI.out b hb).2.1.next HB5.out, by have := HSA.out b hb; omega⟩) (by have h9 := HN12.out.2; rw [size_str] at h9; exact h9) (by have h9 := HN12.out.1; rw [size_str] at h9; exact h9) (by omega) (by have := HM.out; omega) (HV.out.next HB5.out))
                go_wp2_with (first
                  | ((with_reducible refine sp_load n1 1 s ?hx HK5.out.sp ?_); (case hx => rfl))
                  | ((with_reducible refine sc_load n1 14 sc (.slice A2 sc.stages.length c2) ?hx HK5.out.scr ?_); (case hx => rfl)))
                refine HD2.out.mono ?_
                rintro e w6 ⟨_, hd2⟩
                obtain ⟨Al2, cl2, rr2, rfl, _, _, hb6⟩ := hd2 HDF.out
                have HLE := Lib.hid (run_less sc s fs (l.map itemP) (show 0 ≤ f by have := HF.out; omega) (show f ≤ t by have := HF.out; omega))
                rw [HFE.out] at HLE
                obtain ⟨G, hG⟩ : ∃ G, runP sc s fs f.toNat (l.map itemP) = G := ⟨_, rfl⟩
                rw [hG] at HLE ⊢
                obtain ⟨b0, hb0⟩ : ∃ x, G.k.ticks = x := ⟨_, rfl⟩
                obtain ⟨b1, hb1⟩ : ∃ x, G.k.held = x := ⟨_, rfl⟩
                obtain ⟨b2, hb2⟩ : ∃ x, G.k.stage = x := ⟨_, rfl⟩
                obtain ⟨b3, hb3⟩ : ∃ x, G.hot.temp = x := ⟨_, rfl⟩
                obtain ⟨b4, hb4⟩ : ∃ x, G.hot.dep = x := ⟨_, rfl⟩
                obtain ⟨b5, hb5⟩ : ∃ x, G.grad = x := ⟨_, rfl⟩
                unfold ruV
                rw [hb0, hb1, hb2, hb3, hb4, hb5]
                have HLL := Lib.hid (show b1 ≤ a1 ∧ b2 ≤ a2 ∧ b5 ≤ a5 ∧ min f a0 = b0 by
                  have h1 := HLE.out.1.held
                  have h2 := HLE.out.1.stage
                  have h3 := HLE.out.1.grad
                  have h4 := HLE.out.2
                  rw [HAS.out.2.1, hb1] at h1
                  rw [HAS.out.2.2.1, hb2] at h2
                  rw [HAS.out.2.2.2.2.2, hb5] at h3
                  rw [HAS.out.1, hb0] at h4
                  exact ⟨h1, h2, h3, h4⟩)
                have HB6 := Lib.hid (HB5.out.trans (hb6.mono HB5.out.size))
                have HRO6 := Lib.hid ((hb6.block _ (Array.getElem?_eq_some_iff.1 HRO5.out).1).trans HRO5.out)
                clear hb6 hd2 hb0 hb1 hb2 hb3 hb4 hb5 hG y0 y17 y18 HY HLE
                obtain ⟨W7, hW7⟩ : ∃ W7, w6.alloc (.cells #[.int .i64 b0, .int .i64 b1, .int .i64 b2, .int .i64 b3, .int .i64 b4, .int .i64 b5] 44) = W7 := ⟨_, rfl⟩
                obtain ⟨nq, hnq⟩ : ∃ n, w6.heap.size = n := ⟨_, rfl⟩
                have hrq : W7.heap[nq]? = some (.cells #[.int .i64 b0, .int .i64 b1, .int .i64 b2, .int .i64 b3, .int .i64 b4, .int .i64 b5] 44 (0, 0)) := by rw [← hW7, ← hnq]; exact heap_alloc_last w6 _
                have HB7 := Lib.hid (show Below w.heap.size w W7 by rw [← hW7]; exact bel_alloc HB6.out)
                have hrr : W7.heap[nr]? = some (.cells #[.int .i64 a0, .int .i64 a1, .int .i64 a2, .int .i64 a3, .int .i64 a4, .int .i64 a5] 44 (0, 0)) := by rw [← hW7]; exact (Below.heap_alloc _ _ _ (Array.getElem?_eq_some_iff.1 HRO6.out).1).trans HRO6.out
                have HWQ := Lib.hid (And.intro hW7 hnq)
                have HRQ := Lib.hid hrq
                have HRR := Lib.hid hrr
                clear hW7 hnq hrq hrr
                go_upto_region 27 with fail
                rw [HWQ.out.1, HWQ.out.2]
                have hrq := HRQ.out
                have hrr := HRR.out
                have s0 := cell_of_row W7 nq 0 _ _ _ hrq
                have s1 := cell_of_row W7 nq 1 _ _ _ hrq
                have s2 := cell_of_row W7 nq 2 _ _ _ hrq
                have s5 := cell_of_row W7 nq 5 _ _ _ hrq
                have r0 := cell_of_row W7 nr 0 _ _ _ hrr
                have r1 := cell_of_row W7 nr 1 _ _ _ hrr
                have r2 := cell_of_row W7 nr 2 _ _ _ hrr
                have r5 := cell_of_row W7 nr 5 _ _ _ hrr
                have hm1 := (Array.getElem?_eq_some_iff.1 hrq).1
                have hm2 := (Array.getElem?_eq_some_iff.1 hrr).1
                obtain ⟨hl1, hl2, hl5, hmin⟩ := HLL.out
                clear hrq hrr
                go_wp2_with fail
                refine (HAW.out _ HB7.out).mono ?_
                rintro e w8 ⟨rfl, hb8⟩
                go_wp2_with fail
                go_ret
                exact ⟨rfl, hb8⟩
      · obtain ⟨rfl, hb2⟩ := hd1 hE
        obtain ⟨E, hEe⟩ : ∃ E, dryE l s sc fs t = E := ⟨_, rfl⟩
        rw [hEe] at hE ⊢
        have hEb : (E != 0) = true := bne_iff_ne.2 hE
        have HB2 := Lib.hid (HB.out.trans (hb2.mono HB.out.size))
        clear hd1 hd2 hb2 hEe hE
        have HRO := Lib.hid (heap_alloc_last w2 (.cells #[.int .i64 0, .int .i64 0, .int .i64 0, .int .i64 0, .int .i64 0, .int .i64 0] 44))
        have HB3 := Lib.hid (show Below w.heap.size w (w2.alloc (.cells #[.int .i64 0, .int .i64 0, .int .i64 0, .int .i64 0, .int .i64 0, .int .i64 0] 44)) from bel_alloc HB2.out)
        go_wp2_with fail
        refine (HAW.out _ HB3.out).mono ?_
        rintro e w4 ⟨rfl, hb4⟩
        go_wp2_with fail
        go_ret
        exact ⟨rfl, hb4⟩
end Go.Proofs.YthineckpociomaaDoor
