/-
  The contract of the reader's method product (package product).
-/
import Derived.Test.YtokgonpeolppnaaDoorPrH
import Derived.Deep.AppendLies
import Derived.Deep.RegionLaw
namespace Go.Proofs.YtokgonpeolppnaaDoor
open Go.RowKit Saw

def OwnsI (w : World) (base : Nat) (v : Value) (l : List Int) : Prop := w.ownsRow base 3 1 v l.length (ints l)

/-- How memory stands while a product is read: the reader, the block of the result, the block of the product. -/
def PSt (w W : World) (rb : Nat) (lv : Value) (s : Nat × Bool) (cs : Array Value) : Prop :=
  IsPrR W rb lv s.1 s.2 ∧ w.grownBy W (some rb) ∧ (∃ c0 : Array Value, c0.size = 7 ∧ W.heap[w.heap.size]? = some (.cells c0 29 (0, 0))) ∧ W.heap[w.heap.size + 1]? = some (.cells cs 29 (0, 0)) ∧ rb < w.heap.size

section
variable {w W W' : World} {rb : Nat} {lv : Value} {s : Nat × Bool} {cs : Array Value}
theorem PSt.drew (h : PSt w W rb lv s cs) : PSt w W.drew rb lv s cs := ⟨h.1, gb_drew h.2.1, h.2.2.1, h.2.2.2⟩
theorem PSt.alloc (h : PSt w W rb lv s cs) (ob : Obj) : PSt w (W.alloc ob) rb lv s cs := by
  obtain ⟨h1, h2, ⟨c0, hc, h3⟩, h4, h5⟩ := h
  exact ⟨h1.alloc _, gb_alloc h2 _, ⟨c0, hc, hpA h3 _⟩, hpA h4 _, h5⟩
theorem PSt.lt (h : PSt w W rb lv s cs) : w.heap.size + 1 < W.heap.size := (Array.getElem?_eq_some_iff.1 h.2.2.2.1).1
/-- A row of the call's own has grown. -/
theorem PSt.grow (h : PSt w W rb lv s cs) {row : Option Nat} (hg : W.grownBy W' row) (hr : ∀ g, row = some g → w.heap.size + 2 ≤ g) : PSt w W' rb lv s cs := by
  obtain ⟨h1, h2, ⟨c0, hc, h3⟩, h4, h5⟩ := h
  have hk : ∀ k, k < w.heap.size + 2 → some k ≠ row := fun k hk e => by have := hr k e.symm; omega
  exact ⟨(hg.block rb (Array.getElem?_eq_some_iff.1 h1).1 (hk _ (by omega))).trans h1,
    ⟨hg.os.trans h2.os, hg.tape.trans h2.tape, hg.output.trans h2.output, Nat.le_trans h2.size hg.size, fun k hk1 hne => (hg.block k (Nat.lt_of_lt_of_le hk1 h2.size) (hk _ (by omega))).trans (h2.block k hk1 hne)⟩,
    ⟨c0, hc, (hg.block _ (Array.getElem?_eq_some_iff.1 h3).1 (hk _ (by omega))).trans h3⟩, (hg.block _ (Array.getElem?_eq_some_iff.1 h4).1 (hk _ (by omega))).trans h4, h5⟩
theorem PSt.set (h : PSt w W rb lv s cs) (j : Nat) (v : Value) : PSt w (W.setCell ⟨w.heap.size + 1, j, none⟩ v) rb lv s (cs.setIfInBounds j v) := by
  obtain ⟨h1, h2, ⟨c0, hc, h3⟩, h4, h5⟩ := h
  refine ⟨h1.setO (by omega) _, gb_setOther h2 (by omega) _, ⟨c0, hc, hpS h3 (by omega) _⟩, ?_, h5⟩
  rw [setCell_eq_setRow W _ j _ _ _ _ h4, setRow_heap _ _ _ _ _ _ h4]
theorem PSt.cell (h : PSt w W rb lv s cs) (j : Nat) (v : Value) (hv : cs[j]? = some v) : W.cell? ⟨w.heap.size + 1, j, none⟩ = some v := by
  rw [cell_of_row W _ j _ _ (0, 0) h.2.2.2.1]; exact hv
theorem PSt.frozen (h : PSt w W rb lv s cs) (j : Nat) : W.frozen? ⟨w.heap.size + 1, j, none⟩ = false := by simp [World.frozen?, h.2.2.2.1]
end

def lxVal (x : Lx) : Value := .agg #[.int .i64 x.kind, .string (str x.text), .int .i64 x.num, .int .i64 x.off]

theorem take_st {w W : World} {rb : Nat} {lv : Value} {s : Nat × Bool} {cs : Array Value} {xs : List Lx} (hl : Rd w rb 4 lv xs.length (lxsCells xs)) (hxl : xs.length < 1000000) (hst : PSt w W rb lv s cs) (hkx : s.1 < xs.length) (kind : Int) (t : ByteArray) (p : Int × List UInt8) (hp : (kind, bts t) = p) :
    Calls Tryd.prog 52 #[.pointer (some ⟨rb, 0, none⟩), .int .i64 kind, .string t] W fun e W' => e = .returned (.agg #[.int .i64 (lexS xs s p).kind, .string (str (lexS xs s p).text), .int .i64 (lexS xs s p).num, .int .i64 (lexS xs s p).off]) ∧ PSt w W' rb lv (nextS xs s p) cs ∧ W.grownBy W' (some rb) := by
  subst hp
  obtain ⟨h1, h2, ⟨c0, hc, h3⟩, h4, h5⟩ := hst
  refine (take_pr W rb lv s xs kind t h1 (hl.gb h2 (Nat.le_refl _) (by omega)) hkx hxl).mono ?_
  rintro e W' ⟨he, hr, hg⟩
  exact ⟨he, ⟨hr, gb_trans h2 hg, ⟨c0, hc, (hg.block _ (Array.getElem?_eq_some_iff.1 h3).1 (fun e => by injection e; omega)).trans h3⟩, (hg.block _ (Array.getElem?_eq_some_iff.1 h4).1 (fun e => by injection e; omega)).trans h4, h5⟩, hg⟩
theorem try_st {w W : World} {rb : Nat} {lv : Value} {s : Nat × Bool} {cs : Array Value} {xs : List Lx} (hl : Rd w rb 4 lv xs.length (lxsCells xs)) (hxl : xs.length < 1000000) (hst : PSt w W rb lv s cs) (hkx : s.1 < xs.length) (kind : Int) (t : ByteArray) (p : Int × List UInt8) (hp : (kind, bts t) = p) :
    Calls Tryd.prog 53 #[.pointer (some ⟨rb, 0, none⟩), .int .i64 kind, .string t] W fun e W' => e = .returned (.tuple #[.agg #[.int .i64 (lexS xs s p).kind, .string (str (lexS xs s p).text), .int .i64 (lexS xs s p).num, .int .i64 (lexS xs s p).off], .bool (okS xs s p)]) ∧ PSt w W' rb lv (tryS xs s p) cs ∧ W.grownBy W' (some rb) := by
  subst hp
  obtain ⟨h1, h2, ⟨c0, hc, h3⟩, h4, h5⟩ := hst
  obtain ⟨k, f⟩ := s
  refine (try_pr W rb lv k f xs kind t h1 (hl.gb h2 (Nat.le_refl _) (by omega)) hkx (by simp only at hkx; omega)).mono ?_
  rintro e W' ⟨he, hr, hg⟩
  exact ⟨he, ⟨hr, gb_trans h2 hg, ⟨c0, hc, (hg.block _ (Array.getElem?_eq_some_iff.1 h3).1 (fun e => by injection e; omega)).trans h3⟩, (hg.block _ (Array.getElem?_eq_some_iff.1 h4).1 (fun e => by injection e; omega)).trans h4, h5⟩, hg⟩

section
variable {w W W' : World} {base rb : Nat} {v u : Value} {l : List Int}
theorem OwnsI.gb (h : OwnsI W base v l) (hg : W.grownBy W' (some rb)) (hb : rb < base) : OwnsI W' base v l := by
  refine ⟨h.1, ?_⟩
  rcases h.2 with hn | ⟨g, cap, cur, rfl, hbg, hgg, rest⟩
  · exact .inl hn
  · exact .inr ⟨g, cap, cur, rfl, hbg, (hg.block g (Array.getElem?_eq_some_iff.1 hgg).1 (fun e => by injection e; omega)).trans hgg, rest⟩
theorem OwnsI.ge (h : OwnsI W base v l) : ∀ g, v.ownBlock = some g → base ≤ g ∧ g < W.heap.size := by
  intro g hg
  rcases h.2 with ⟨hn, _⟩ | ⟨g', cap, cur, rfl, hbg, hgg, rest⟩
  · subst hn; cases hg
  · have e : g' = g := by simpa [Value.ownBlock] using hg
    subst e
    exact ⟨hbg, (Array.getElem?_eq_some_iff.1 hgg).1⟩
theorem OwnsI.grow (h : OwnsI W base v l) {row : Option Nat} (hg : W.grownBy W' row) (hne : ∀ g, v.ownBlock = some g → row ≠ some g) : OwnsI W' base v l := by
  refine ⟨h.1, ?_⟩
  rcases h.2 with hn | ⟨g, cap, cur, rfl, hbg, hgg, rest⟩
  · exact .inl hn
  · exact .inr ⟨g, cap, cur, rfl, hbg, (hg.block g (Array.getElem?_eq_some_iff.1 hgg).1 (fun e => hne g (by simp [Value.ownBlock]) e.symm)).trans hgg, rest⟩
theorem OwnsI.set (h : OwnsI W base v l) {g j : Nat} (hg : g < base) : OwnsI (W.setCell ⟨g, j, none⟩ u) base v l := by
  refine ⟨h.1, ?_⟩
  rcases h.2 with hn | ⟨g', cap, cur, rfl, hbg, hgg, rest⟩
  · exact .inl hn
  · exact .inr ⟨g', cap, cur, rfl, hbg, hpS hgg (by omega) _, rest⟩
theorem OwnsI.drew (h : OwnsI W base v l) : OwnsI W.drew base v l := h
theorem OwnsI.deeper (h : OwnsI W base v l) {b : Nat} (hb : b ≤ base) : OwnsI W b v l := by
  refine ⟨h.1, ?_⟩
  rcases h.2 with hn | ⟨g, cap, cur, rfl, hbg, hgg, rest⟩
  · exact .inl hn
  · exact .inr ⟨g, cap, cur, rfl, by omega, hgg, rest⟩
theorem OwnsI.one (h : OwnsI W base v l) : v.oneCell' = true := by
  rcases h.2 with ⟨rfl, _⟩ | ⟨g, cap, cur, rfl, _⟩ <;> rfl
theorem ints_snoc (n : Int) : ints (l ++ [n]) = ints l ++ [.int .i64 n] := by simp [ints]
end
theorem info_int : (Tryd.prog.info? 3).map (fun i => (i.zero, i.size, i.bytes)) = some (some (.int .i64 0), 1, 8) := by kernel_rfl
/-- The two rows lie apart. -/
def Apart (v u : Value) : Prop := ∀ g, v.ownBlock = some g → u.ownBlock ≠ some g

end Go.Proofs.YtokgonpeolppnaaDoor
