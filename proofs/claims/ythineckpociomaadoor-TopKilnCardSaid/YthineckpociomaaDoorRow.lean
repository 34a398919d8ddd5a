/-
  The last step of a law's row: what a call leaves where it has written nothing that was there before ('Below').
-/
import Derived.Test.YthineckpociomaaDoorRows
import Derived.WalkKit
import Derived.ProofKit
import Derived.OpenShut
import Derived.ShutString
import Derived.Below
import Derived.ChangeSame
import Derived.Carry
import Derived.WideKeyArgs
import Derived.Deep.Slices
import Derived.Deep.Fields
import Derived.Test.YthineckpociomaaDoorRd
namespace Go.Proofs.YthineckpociomaaDoor
open Go.ChangeShapes Go.WideShapes Go.ChangeAt Go.RowKit

theorem own_knob : ownKnob Tryd.prog.godebug = none := by kernel_rfl

/-- The row's post out of 'Below': the results read as they should, each argument reads as before, the rest of memory is as it was. -/
theorem post_below {H : Type} {enc : TypeId × Value → H} {P : Program} {f : Func} {s : ChangeSpec} {apart fresh handsOn again : Bool} {W W' : World} {args : Array Value} {v : Value} {ds gs : List (DataW H)} {before pa pv : List MemPlace}
    (hW : DataW.Whole enc P f.params.toList s.vars apart W args.toList ds gs before) (hb : Below W.heap.size W W') (hps : before = pa ++ pv)
    (hres : ∀ (b : Nat) (sp : Nat → Bool) (hd : Bool), DataW.TrodAll enc P W' b sp hd f.resultTypes.toList (v.resultList f.resultTypes.size) (s.fn H (ds ++ gs)).results [])
    (hargs : ∀ sp : Nat → Bool, (∀ p ∈ before, sp p.block = true) → DataW.TrodAll enc P W' 0 sp true f.params.toList args.toList (s.fn H (ds ++ gs)).args pa)
    (hvars : ∀ sp : Nat → Bool, (∀ p ∈ before, sp p.block = true) → DataW.TrodVars enc P W' sp s.vars (s.fn H (ds ++ gs)).vars pv)
    (hok : ∀ (j : Nat) (t : TypeId) (r : Value), f.resultTypes[j]? = some t → (v.resultList f.resultTypes.size)[j]? = some r → Value.okWide P W' .any 0 t r) :
    s.post enc P f apart fresh handsOn again W args v W' := by
  subst hps
  have old : ∀ p ∈ pa ++ pv, p.block < W.heap.size := hW.lt
  have marked : ∀ p ∈ pa ++ pv, decide (p.block < W.heap.size) = true := fun p hp => decide_eq_true (old p hp)
  obtain ⟨_, _, _, _, _, free, nodup⟩ := id hW
  refine ⟨ds, gs, _, [], pa, pv, hW, hres _ _ _, hargs (fun b => decide (b < W.heap.size)) marked, hvars (fun b => decide (b < W.heap.size)) marked, ?_, ?_⟩
  · exact World.keptBut_mono (fun p hp => ⟨hp, Or.inr (List.mem_append.1 hp)⟩) (hb.frame (· ∈ pa ++ pv))
  · intro _
    refine ⟨hok, _, _, ([] ++ pa) ++ pv, ⟨[] ++ pa, pv, trodAll_append (hargs _ fun _ _ => rfl) (hres _ _ _), hvars _ fun _ _ => rfl, rfl, ?_, ?_⟩, ?_⟩
    · intro b off hp
      rw [List.nil_append] at hp
      exact (hb.frozen (old _ hp)).trans (free b off hp)
    · intro ha
      rw [List.nil_append]
      exact nodup ha
    · intro p hp _
      rw [List.nil_append] at hp
      exact hp

theorem laid_out : laidOutB Tryd.prog = true := by kernel_rfl

/-- Arguments of whatever types read behind the call as before, if nothing that was there has turned. -/
theorem trodAll_stays {H : Type} {enc : TypeId × Value → H} {P : Program} (hl : laidOutB P = true) {W W' : World} (hb : Below W.heap.size W W') {sp : Nat → Bool} :
    ∀ (ts : List TypeId) (vs : List Value) (ds : List (DataW H)) (ps : List MemPlace), (∀ t ∈ ts, P.readableRec t = true ∧ t < P.types.size) → (∀ x ∈ ps, x.block < W.heap.size) → (∀ x ∈ ps, sp x.block = true) →
      DataW.TrodAll enc P W 0 (fun _ => true) true ts vs ds ps → DataW.TrodAll enc P W' 0 sp true ts vs ds ps
  | [], vs, ds, ps, _, _, _, h => by
    cases vs <;> cases ds <;> simp [DataW.TrodAll] at h ⊢
    exact h
  | t :: ts, vs, ds, ps, hr, hlt, hsp, h => by
    obtain ⟨v, vs', d, ds', p, q, rfl, rfl, rfl, h1, h2⟩ := trodAll_cons h
    obtain ⟨r1, r2⟩ := hr t (by simp)
    exact trodAll_cons_mk (WideElems.Trod_stays hl r1 r2 h1 (fun x hx => hb.same (hlt x (by simp [hx]))) (fun x hx => hsp x (by simp [hx])))
      (trodAll_stays hl hb ts vs' ds' q (fun t ht => hr t (by simp [ht])) (fun x hx => hlt x (by simp [hx])) (fun x hx => hsp x (by simp [hx])) h2)

set_option maxRecDepth 100000 in
/-- The row's post of a law: it returned true, and nothing that was there has turned. -/
theorem post_law {H : Type} {enc : TypeId × Value → H} {f : Func} {s : ChangeSpec} {fresh handsOn again : Bool} {W W' : World} {args : Array Value} {ds : List (DataW H)} {p : List MemPlace}
    (hW : DataW.Whole enc Tryd.prog f.params.toList s.vars false W args.toList ds [] (p ++ [])) (hb : Below W.heap.size W W') (hv : s.vars = [])
    (hA : DataW.TrodAll enc Tryd.prog W 0 (fun _ => true) true f.params.toList args.toList ds p)
    (hty : ∀ t ∈ f.params.toList, Tryd.prog.readableRec t = true ∧ t < Tryd.prog.types.size)
    (hres : f.resultTypes = #[4]) (h1 : (s.fn H (ds ++ [])).results = [.lit (.bool true)]) (h2 : (s.fn H (ds ++ [])).args = ds) (h3 : (s.fn H (ds ++ [])).vars = []) :
    s.post enc Tryd.prog f false fresh handsOn again W args (.bool true) W' := by
  have hlt : ∀ x ∈ p, x.block < W.heap.size := fun x hx => hW.lt x (by simp [hx])
  refine post_below (pa := p) (pv := []) hW hb rfl ?_ ?_ ?_ ?_
  · intro b sp hd
    rw [h1, hres]
    exact trodAll_cons_mk (shut_bool Tryd.underlying4 _) trodAll_mk0
  · intro sp hsp
    rw [h2]
    exact trodAll_stays laid_out hb _ _ _ _ hty hlt (fun x hx => hsp x (by simp [hx])) hA
  · intro sp _
    rw [hv, h3]
    rfl
  · exact ok_one hres rfl (okWide_bool_mk Tryd.underlying4 _)

/-- A slice of whatever elements that came in: its rows of cells, and how each reads. -/
theorem open_rows {H : Type} {enc : TypeId × Value → H} {P : Program} {w : World} {spare : Nat → Bool} {held : Bool} {t e : TypeId} {C fuel : Nat} {v : Value} {x : DataW H × List MemPlace} (ht : P.underlying t = some (.slice e)) (hC : P.cellsOf e = C) (hpos : 0 < C)
    (h : DataW.trod enc P w 0 spare held fuel t [v] = some x) :
    ∃ (rows : List (List Value)) (A : Option Addr) (c : Nat), v = .slice A rows.length c ∧ (∀ r ∈ rows, r.length = C ∧ ∃ n y, DataW.trod enc P w 0 spare held n e r = some y) ∧ Rd w w.heap.size C v rows.length rows.flatten := by
  rcases Deep.open_slice ht h with ⟨h0, _⟩ | ⟨a, len, cap, m, n, D, Pl, hcs, _, hl, hm, hmm, _, hi⟩
  · injection h0 with h0
    subst h0
    exact ⟨[], none, 0, rfl, by simp, Rd.none_⟩
  · injection hcs with hcs
    subst hcs
    have hlm : len ≤ m := by rw [hmm]; split <;> omega
    have hex : ∀ i, i < len → ∃ cs', w.cells? 0 (a.add (i * C)) C = some cs' ∧ DataW.trod enc P w 0 spare held n e cs' = some (D i, Pl i) := fun i h => by
      have := hi i (by omega)
      rwa [hC] at this
    let row : Nat → List Value := fun i => if hh : i < len then Classical.choose (hex i hh) else []
    have hrow : ∀ i, i < len → w.cells? 0 (a.add (i * C)) C = some (row i) ∧ DataW.trod enc P w 0 spare held n e (row i) = some (D i, Pl i) := fun i hh => by
      have := Classical.choose_spec (hex i hh)
      simp only [row, hh, dite_true]
      exact this
    have hrl : ∀ i, i < len → (row i).length = C := fun i hh => (World.cells?_some (hrow i hh).1).2.1
    have hflat : ∀ k, k ≤ len → (((List.range k).map row).flatten).length = k * C := by
      intro k
      induction k with
      | zero => intro _; simp
      | succ k ih =>
        intro hk
        rw [List.range_succ, List.map_append, List.flatten_append, List.length_append, ih (by omega)]
        simp [hrl k (by omega), Nat.add_mul]
    refine ⟨(List.range len).map row, some a, cap, by simp, ?_, ?_⟩
    · intro r hr
      obtain ⟨i, hi', rfl⟩ := List.mem_map.1 hr
      have hil : i < len := List.mem_range.1 hi'
      exact ⟨hrl i hil, n, _, (hrow i hil).2⟩
    · refine ⟨by rw [hflat len (Nat.le_refl _)]; simp, by simp; omega, some a, cap, by simp, by simpa using hl, fun hn => ?_⟩
      rw [List.length_map, List.length_range] at hn
      have hcell : ∀ i j, i < len → j < C → w.cell? (a.add (i * C + j)) = (row i)[j]? := fun i j h1 h2 => by
        have := (World.cells?_some (hrow i h1).1).2.2 j h2
        rwa [Deep.add_add] at this
      have hc0 : ∃ u, w.cell? (a.add 0) = some u := by
        have h1 := hcell 0 0 hn hpos
        rw [Nat.zero_mul, Nat.zero_add] at h1
        rw [h1]
        exact ⟨_, List.getElem?_eq_getElem (by rw [hrl 0 hn]; exact hpos)⟩
      obtain ⟨u0, hu0⟩ := hc0
      obtain ⟨b, off, spot⟩ := a
      have hspot : spot = none := by simpa [Addr.add] using World.cell?_spot hu0
      subst hspot
      refine ⟨b, off, rfl, ?_, fun j u hu => ?_⟩
      · have := World.block_lt_of_cell? (w := w) (a := ⟨b, off, none⟩) (by simpa [Addr.add] using hu0)
        exact this
      · rw [← Go.WideShapes.add_plain]
        have hj : j < len * C := by
          have := (List.getElem?_eq_some_iff.1 hu).1
          rwa [hflat len (Nat.le_refl _)] at this
        have hget : ∀ k, k ≤ len → ∀ j, j < k * C → (((List.range k).map row).flatten)[j]? = (row (j / C))[j % C]? := by
          intro k
          induction k with
          | zero => intro _ j hj; simp at hj
          | succ k ih =>
            intro hk j hj
            rw [List.range_succ, List.map_append, List.flatten_append]
            by_cases hjk : j < k * C
            · rw [List.getElem?_append_left (by rw [hflat k (by omega)]; exact hjk)]
              exact ih (by omega) j hjk
            · have hjd : j / C = k := by
                apply Nat.div_eq_of_lt_le
                · omega
                · omega
              have hjm : j % C = j - k * C := by
                have := Nat.div_add_mod j C
                rw [hjd, Nat.mul_comm] at this
                omega
              rw [List.getElem?_append_right (by rw [hflat k (by omega)]; omega), hflat k (by omega), hjd, hjm]
              simp
        rw [hget len (Nat.le_refl _) j hj] at hu
        have h1 : j / C < len := (Nat.div_lt_iff_lt_mul hpos).2 hj
        have h2 := hcell (j / C) (j % C) h1 (Nat.mod_lt _ hpos)
        rw [hu, Nat.mul_comm, Nat.div_add_mod] at h2
        exact h2

/-- A row of cells that reads as a struct of one-cell fields: each field's cell and its reading. -/
theorem row_fields {H : Type} {enc : TypeId × Value → H} {P : Program} {w : World} {base : Nat} {spare : Nat → Bool} {held : Bool} {e : TypeId} {fs : Array Field} {n : Nat} {r : List Value} {y : DataW H × List MemPlace}
    (he : P.underlying e = some (.struct fs)) (hone : Deep.oneCellFields P fs = true) (hC : P.cellsOf e = fs.size) (h : DataW.trod enc P w base spare held n e r = some y) :
    r.length = fs.size ∧ ∃ m, ∀ (j : Nat) (f : Field), fs[j]? = some f → ∃ c z, r[j]? = some c ∧ DataW.trod enc P w base spare held m f.type [c] = some z := by
  obtain ⟨xs, m, _, _, hlen, hxl, hf⟩ := DataW.trod_struct he h
  rw [hC] at hlen
  refine ⟨hlen, m, fun j f hj => ?_⟩
  obtain ⟨ho, hk⟩ := Deep.hone_of hone j f hj
  have hjl : j < fs.size := (Array.getElem?_eq_some_iff.1 hj).1
  have h1 := hf j f hj
  rw [ho, hk, List.drop_eq_getElem_cons (by omega)] at h1
  exact ⟨r[j]'(by omega), xs[j]'(by omega), List.getElem?_eq_getElem (by omega), h1.trans (List.getElem?_eq_getElem (by omega))⟩

end Go.Proofs.YthineckpociomaaDoor
