/-
  The law's function awake (chapter 44).
-/
import Derived.Test.YtkalkglllgebkaaDoorRyF
import Derived.Deep.RegionHeld3
namespace Saw
def aA : List UInt8 := [97]
def bA : List UInt8 := [98]
def cA : List UInt8 := [99]
def vE (s : List UInt8) : Ex := ⟨2, 0, s, .nil⟩
def nE (n : Int) : Ex := ⟨1, n, [], .nil⟩
def xA : Ex := two 11 (one 9 (two 6 (vE aA) (vE bA))) (two 7 (vE cA) (nE 3))
def yA : Ex := two 5 (two 3 (vE aA) (nE 1)) (two 4 (vE bA) (two 4 (vE cA) (nE (-2))))
def knotsW : List UInt8 := [107, 110, 111, 116, 115]
def waneW' : List UInt8 := [119, 97, 110, 101]
def rotW : List UInt8 := [114, 111, 116]
def lA : List Rl := [⟨1, two 10 (two 8 (vE knotsW) (nE 2)) (two 6 (vE waneW') (nE 0))⟩, ⟨2, one 9 (two 7 (nE 0) (vE rotW))⟩]
def t1A : List UInt8 := [103, 114, 97, 100, 101, 32, 49, 32, 119, 104, 101, 110, 32, 107, 110, 111, 116, 115, 32, 60, 61, 32, 50, 32, 97, 110, 100, 32, 119, 97, 110, 101, 32, 61, 32, 48, 59, 32, 103, 114, 97, 100, 101, 32, 50, 32, 119, 104, 101, 110, 32, 110, 111, 116, 32, 114, 111, 116, 32, 62, 32, 48, 59]
def t2A : List UInt8 := [97, 32, 60, 32, 98, 32, 60, 32, 99]
def t3A : List UInt8 := [97, 32, 97, 110, 100, 32, 78, 111, 116]
def t4A : List UInt8 := [97, 32, 33, 61, 32, 98, 32, 111, 114, 32, 99, 32, 60, 32, 51]
def s1A : List UInt8 := [110, 111, 116, 32, 97, 32, 61, 32, 98, 32, 111, 114, 32, 99, 32, 60, 32, 51]
def s2A : List UInt8 := [40, 97, 32, 43, 32, 49, 41, 32, 42, 32, 40, 98, 32, 45, 32, 40, 99, 32, 45, 32, 45, 50, 41, 41]
theorem aw_p1 : parseR t1A = (lA, 0, 0) := by kernel_rfl
theorem aw_p2 : parseX t2A = (Ex.zero, 5, 6) := by kernel_rfl
theorem aw_p3 : parseX t3A = (Ex.zero, 6, 6) := by kernel_rfl
theorem aw_p4 : parseX t4A = (xA, 0, 0) := by kernel_rfl
theorem aw_e1 : exprP xA = s1A := by kernel_rfl
theorem aw_e2 : exprP yA = s2A := by kernel_rfl
theorem aw_e3 : exprP (vE [97, 110, 100]) = [] := by kernel_rfl
theorem aw_s : decide (xA = xA) = true ∧ decide (xA = yA) = false := ⟨by kernel_rfl, by kernel_rfl⟩
def andAw : List UInt8 := [97, 110, 100]
def fA : List UInt8 := [103, 114, 97, 100, 101, 32, 49, 32, 119, 104, 101, 110, 32, 107, 110, 111, 116, 115, 32, 60, 61, 32, 50, 32, 97, 110, 100, 32, 119, 97, 110, 101, 32, 61, 32, 48, 59, 10, 103, 114, 97, 100, 101, 32, 50, 32, 119, 104, 101, 110, 32, 110, 111, 116, 32, 48, 32, 60, 32, 114, 111, 116, 59, 10]
theorem aw_f : formatR lA = fA := by kernel_rfl
theorem aw_n1 : NmE 1000000 xA := by simp [NmE, nmF, xA, two, one, vE, nE, aA, bA, cA]
theorem aw_n2 : NmE 1000000 yA := by simp [NmE, nmF, yA, two, vE, nE, aA, bA, cA]
theorem aw_n3 : ∀ r ∈ lA, NmE 1000000 r.when_ := by
  intro r hr
  simp only [lA, List.mem_cons, List.not_mem_nil, or_false] at hr
  rcases hr with rfl | rfl <;> simp [NmE, nmF, two, one, vE, nE, knotsW, waneW', rotW]
theorem aw_n4 : NmE 1000000 (vE andAw) := ⟨by decide, trivial⟩
end Saw
namespace Go.Proofs.YtkalkglllgebkaaDoor
open Go.RowKit Saw Go.Sort

def LawX (w : World) (e : Ending) (w' : World) : Prop := e = .returned (.bool true) ∧ Below w.heap.size w w'
def ExPost (x : Ex) (sv : Value) (w : World) (e : Ending) (w' : World) : Prop := e = .returned (.agg #[.int .i64 x.op, .int .i64 x.n, .string (str x.name), sv]) ∧ Below w.heap.size w w'
set_option maxRecDepth 100000 in
theorem xv_any (s : List UInt8) (w : World) : Calls Tryd.prog 28 #[.string (str s)] w fun e w' => e = .returned (.agg #[.int .i64 2, .int .i64 0, .string (str s), .slice none 0 0]) ∧ Below w.heap.size w w' := by
  go_enter Tryd.func28, Tryd.ntmps28
  go_wp2_with fail
  refine bodyPost_ret (v := .agg #[.int .i64 2, .int .i64 0, .string (str s), .slice none 0 0]) (by simp [results, Tryd.results28, go_sem]) rfl ⟨rfl, ?_⟩
  exact bel_alloc (Below.refl _ _)
set_option maxRecDepth 100000 in
theorem xn_any (n : Int) (w : World) : Calls Tryd.prog 30 #[.int .i64 n] w fun e w' => e = .returned (.agg #[.int .i64 1, .int .i64 n, .string (str []), .slice none 0 0]) ∧ Below w.heap.size w w' := by
  go_enter Tryd.func30, Tryd.ntmps30
  go_wp2_with fail
  refine bodyPost_ret (v := .agg #[.int .i64 1, .int .i64 n, .string (str []), .slice none 0 0]) (by simp [results, Tryd.results30, go_sem, str]) rfl ⟨rfl, ?_⟩
  exact bel_alloc (Below.refl _ _)
set_option maxRecDepth 100000 in
theorem xo_any (w : World) (op : Int) (A : Option Addr) (n c : Nat) : Calls Tryd.prog 29 #[.int .i64 op, .slice A n c] w fun e w' => e = .returned (.agg #[.int .i64 op, .int .i64 0, .string (str []), .slice A n c]) ∧ Below w.heap.size w w' := by
  go_enter Tryd.func29, Tryd.ntmps29
  go_wp2_with fail
  refine bodyPost_ret (v := .agg #[.int .i64 op, .int .i64 0, .string (str []), .slice A n c]) (by simp [results, Tryd.results29, go_sem, str]) rfl ⟨rfl, ?_⟩
  exact bel_alloc (Below.refl _ _)

/-- An expression's value that reads as it should. -/
def KE (W : World) (x : Ex) (sv : Value) : Prop := RdFo W (Iv 0 W.heap.size) sv x.kids
section
variable {W W' : World} {x y : Ex} {sv tv : Value} {n : Nat} {t : TypeId}
theorem KE.leaf (W : World) (o k : Int) (s : List UInt8) : KE W ⟨o, k, s, .nil⟩ (.slice none 0 0) := RdFo.none_ _ _
theorem KE.next (h : KE W x sv) (hb : Below W.heap.size W W') : KE W' x sv := RdFo.next h hb
theorem KE.alloc (h : KE W x sv) (o : Obj) : KE (W.alloc o) x sv := RdFo.allocN h o
theorem KE.two (hc : W.heap[n]? = some (.cells #[.int .i64 x.op, .int .i64 x.n, .string (str x.name), sv, .int .i64 y.op, .int .i64 y.n, .string (str y.name), tv] t (0, 0))) (hx : KE W x sv) (hy : KE W y tv) (hb : Below W.heap.size W W') (op : Int) : KE W' (Saw.two op x y) (.slice (some ⟨n, 0, none⟩) 2 2) := by
  have hn := (Array.getElem?_eq_some_iff.1 hc).1
  have h := rangeAt_block hc
  have q1 : W.rangeAt n 0 (exCells x sv) := rangeAt_of4 (h 0 _ rfl) (h 1 _ rfl) (h 2 _ rfl) (h 3 _ rfl)
  have q2 : W.rangeAt n 4 (exCells y tv) := rangeAt_of4 (h 4 _ rfl) (h 5 _ rfl) (h 6 _ rfl) (h 7 _ rfl)
  exact (RdFo.two_ q1 q2 ⟨Nat.zero_le _, hn⟩ hx hy (by omega)).next hb
theorem KE.one (hc : W.heap[n]? = some (.cells #[.int .i64 x.op, .int .i64 x.n, .string (str x.name), sv] t (0, 0))) (hx : KE W x sv) (hb : Below W.heap.size W W') (op : Int) : KE W' (Saw.one op x) (.slice (some ⟨n, 0, none⟩) 1 1) := by
  have hn := (Array.getElem?_eq_some_iff.1 hc).1
  exact (RdFo.one_ (rangeAt_block hc) ⟨Nat.zero_le _, hn⟩ hx (by omega)).next hb
/-- A variable that holds an expression. -/
def VarE (W : World) (g : Nat) (x : Ex) (sv : Value) : Prop := W.heap[g]? = some (.cells #[.int .i64 x.op, .int .i64 x.n, .string (str x.name), sv] 24 (0, 0)) ∧ KE W x sv
theorem VarE.next {g : Nat} (h : VarE W g x sv) (hb : Below W.heap.size W W') : VarE W' g x sv := ⟨(hb.block g (Array.getElem?_eq_some_iff.1 h.1).1).trans h.1, h.2.next hb⟩
theorem VarE.at_ {g : Nat} (h : VarE W g x sv) : W.rangeAt g 0 (exCells x sv) := rangeAt_block h.1
theorem VarE.lt {g : Nat} (h : VarE W g x sv) : g < W.heap.size := (Array.getElem?_eq_some_iff.1 h.1).1
theorem VarE.new_ (h : KE W x sv) : VarE (W.alloc (.cells #[.int .i64 x.op, .int .i64 x.n, .string (str x.name), sv] 24)) W.heap.size x sv := ⟨heap_alloc_last W _, h.alloc _⟩
theorem VarE.cells {g : Nat} (h : VarE W g x sv) : W.cell? ⟨g, 0, none⟩ = some (.int .i64 x.op) ∧ W.cell? ⟨g, 1, none⟩ = some (.int .i64 x.n) ∧ W.cell? ⟨g, 2, none⟩ = some (.string (str x.name)) ∧ W.cell? ⟨g, 3, none⟩ = some sv :=
  ⟨cell_of_box h.1 rfl, cell_of_box h.1 rfl, cell_of_box h.1 rfl, cell_of_box h.1 rfl⟩
end
theorem VarE.leafC {W : World} {g : Nat} {s : List UInt8} (h : VarE W g (vE s) (.slice none 0 0)) : W.cell? ⟨g, 0, none⟩ = some (.int .i64 2) ∧ W.cell? ⟨g, 1, none⟩ = some (.int .i64 0) ∧ W.cell? ⟨g, 2, none⟩ = some (.string (str s)) ∧ W.cell? ⟨g, 3, none⟩ = some (.slice none 0 0) := h.cells
theorem leaf2 {W : World} {g : Nat} {s : List UInt8} (h : VarE W (g + 2) (vE s) (.slice none 0 0)) : W.cell? ⟨g + 1 + 1, 0, none⟩ = some (.int .i64 2) ∧ W.cell? ⟨g + 1 + 1, 1, none⟩ = some (.int .i64 0) ∧ W.cell? ⟨g + 1 + 1, 2, none⟩ = some (.string (str s)) ∧ W.cell? ⟨g + 1 + 1, 3, none⟩ = some (.slice none 0 0) := h.leafC
theorem heap_last1 (w : World) (z o : Obj) : ((w.alloc z).alloc o).heap[w.heap.size + 1]? = some o := by
  have h := heap_alloc_last (w.alloc z) o
  rwa [World.size_alloc] at h

/-- The three variables a, b, c. -/
def AwS (w W : World) (g : Nat) : Prop := VarE W g (vE aA) (.slice none 0 0) ∧ VarE W (g + 1) (vE bA) (.slice none 0 0) ∧ VarE W (g + 2) (vE cA) (.slice none 0 0) ∧ Below w.heap.size w W
theorem AwS.next {w W W' : World} {g : Nat} (h : AwS w W g) (hb : Below W.heap.size W W') : AwS w W' g := ⟨h.1.next hb, h.2.1.next hb, h.2.2.1.next hb, bel_call h.2.2.2 hb⟩

/-- An expression's value that reads as it should, none of its blocks being G. -/
def KEx (W : World) (G : Nat) (x : Ex) (sv : Value) : Prop := RdFo W (fun b => b < W.heap.size ∧ b ≠ G) sv x.kids
section
variable {W W' : World} {x y : Ex} {sv tv : Value} {n G : Nat} {t : TypeId}
theorem KE.apart (h : KE W x sv) (o : Obj) : KEx (W.alloc o) W.heap.size x sv :=
  (RdFo.alloc h (fun _ hb => hb.2) o).more fun b hb => ⟨by have := hb.2; rw [World.size_alloc]; omega, Nat.ne_of_lt hb.2⟩
theorem KEx.leaf (W : World) (G : Nat) (o k : Int) (s : List UInt8) : KEx W G ⟨o, k, s, .nil⟩ (.slice none 0 0) := RdFo.none_ _ _
theorem KEx.next (h : KEx W G x sv) (hb : Below W.heap.size W W') : KEx W' G x sv := (RdFo.below h hb (fun _ hp => hp.1)).more fun _ hp => ⟨Nat.lt_of_lt_of_le hp.1 hb.size, hp.2⟩
theorem KEx.two (hc : W.heap[n]? = some (.cells #[.int .i64 x.op, .int .i64 x.n, .string (str x.name), sv, .int .i64 y.op, .int .i64 y.n, .string (str y.name), tv] t (0, 0))) (hG : n ≠ G) (hx : KEx W G x sv) (hy : KEx W G y tv) (hb : Below W.heap.size W W') (op : Int) : KEx W' G (Saw.two op x y) (.slice (some ⟨n, 0, none⟩) 2 2) := by
  have hn := (Array.getElem?_eq_some_iff.1 hc).1
  have h := rangeAt_block hc
  have q1 : W.rangeAt n 0 (exCells x sv) := rangeAt_of4 (h 0 _ rfl) (h 1 _ rfl) (h 2 _ rfl) (h 3 _ rfl)
  have q2 : W.rangeAt n 4 (exCells y tv) := rangeAt_of4 (h 4 _ rfl) (h 5 _ rfl) (h 6 _ rfl) (h 7 _ rfl)
  exact KEx.next (RdFo.two_ q1 q2 ⟨hn, hG⟩ hx hy (by omega)) hb
theorem KEx.one (hc : W.heap[n]? = some (.cells #[.int .i64 x.op, .int .i64 x.n, .string (str x.name), sv] t (0, 0))) (hG : n ≠ G) (hx : KEx W G x sv) (hb : Below W.heap.size W W') (op : Int) : KEx W' G (Saw.one op x) (.slice (some ⟨n, 0, none⟩) 1 1) := by
  have hn := (Array.getElem?_eq_some_iff.1 hc).1
  exact KEx.next (RdFo.one_ (rangeAt_block hc) ⟨hn, hG⟩ hx (by omega)) hb
theorem VarE.put {z : Array Value} (hz : W.heap[G]? = some (.cells z 24 (0, 0))) (h : KEx W G x sv) : VarE (W.setRow G #[.int .i64 x.op, .int .i64 x.n, .string (str x.name), sv]) G x sv := by
  refine ⟨setRow_heap _ _ _ _ _ _ hz, ?_⟩
  unfold KE
  rw [show (W.setRow G #[.int .i64 x.op, .int .i64 x.n, .string (str x.name), sv]).heap.size = W.heap.size by simp]
  exact (RdFo.setRow h (fun b hb => hb.2) _).more fun b hb => ⟨Nat.zero_le _, hb.1⟩
theorem zero_cells (hz : W.heap[G]? = some (.cells #[.int .i64 0, .int .i64 0, .string ⟨#[]⟩, .slice none 0 0] t (0, 0))) : (W.cell? ⟨G, 0, none⟩ = some (.int .i64 0) ∧ W.cell? ⟨G, 1, none⟩ = some (.int .i64 0) ∧ W.cell? ⟨G, 2, none⟩ = some (.string ⟨#[]⟩) ∧ W.cell? ⟨G, 3, none⟩ = some (.slice none 0 0)) ∧ W.frozen? ⟨G, 0, none⟩ = false ∧ W.frozen? ⟨G, 1, none⟩ = false ∧ W.frozen? ⟨G, 2, none⟩ = false ∧ W.frozen? ⟨G, 3, none⟩ = false := by
  refine ⟨⟨cell_of_box hz rfl, cell_of_box hz rfl, cell_of_box hz rfl, cell_of_box hz rfl⟩, ?_, ?_, ?_, ?_⟩ <;> simp [World.frozen?, hz]
end

set_option maxRecDepth 100000 in
set_option maxHeartbeats 4000000 in
theorem awake_any (w : World) (hv : VarsX w) : Calls Tryd.prog 12 #[] w (LawX w) := by
  have HV := Lib.hid hv
  clear hv
  go_enter Tryd.func12, Tryd.ntmps12
  go_wp2_with fail
  refine (xv_any aA w).mono ?_
  rintro e w1 ⟨rfl, hb1⟩
  go_wp2_with fail
  refine (xv_any bA w1).mono ?_
  rintro e w2 ⟨rfl, hb2⟩
  go_wp2_with fail
  refine (xv_any cA w2).mono ?_
  rintro e w3 ⟨rfl, hb3⟩
  have HB3 := Lib.hid (bel_call (bel_call hb1 hb2) hb3)
  clear hb1 hb2 hb3
  have hA := (((VarE.new_ (KE.leaf w3 2 0 aA)).next ((Below.refl _ _).alloc (Nat.le_refl _) (.cells #[.int .i64 2, .int .i64 0, .string (str bA), .slice none 0 0] 24))).next ((Below.refl _ _).alloc (Nat.le_refl _) (.cells #[.int .i64 2, .int .i64 0, .string (str cA), .slice none 0 0] 24)))
  have hB := (VarE.new_ (KE.leaf (w3.alloc (.cells #[.int .i64 2, .int .i64 0, .string (str aA), .slice none 0 0] 24)) 2 0 bA)).next ((Below.refl _ _).alloc (Nat.le_refl _) (.cells #[.int .i64 2, .int .i64 0, .string (str cA), .slice none 0 0] 24))
  have hC := VarE.new_ (KE.leaf ((w3.alloc (.cells #[.int .i64 2, .int .i64 0, .string (str aA), .slice none 0 0] 24)).alloc (.cells #[.int .i64 2, .int .i64 0, .string (str bA), .slice none 0 0] 24)) 2 0 cA)
  rw [World.size_alloc] at hB
  rw [World.size_alloc, World.size_alloc] at hC
  have hBW := bel_alloc (ob := .cells #[.int .i64 2, .int .i64 0, .string (str cA), .slice none 0 0] 24) (bel_alloc (ob := .cells #[.int .i64 2, .int .i64 0, .string (str bA), .slice none 0 0] 24) (bel_alloc (ob := .cells #[.int .i64 2, .int .i64 0, .string (str aA), .slice none 0 0] 24) HB3.out))
  go_upto_region 2 with fail
  obtain ⟨W3, hW3⟩ : ∃ W, ((w3.alloc (.cells #[.int .i64 2, .int .i64 0, .string (str aA), .slice none 0 0] 24)).alloc (.cells #[.int .i64 2, .int .i64 0, .string (str bA), .slice none 0 0] 24)).alloc (.cells #[.int .i64 2, .int .i64 0, .string (str cA), .slice none 0 0] 24) = W := ⟨_, rfl⟩
  obtain ⟨g, hg⟩ : ∃ g, w3.heap.size = g := ⟨_, rfl⟩
  have h0 : AwS w W3 g := ⟨by rw [← hW3, ← hg]; exact hA, by rw [← hW3, ← hg]; exact hB, by rw [← hW3, ← hg]; exact hC, by rw [← hW3]; exact hBW⟩
  rw [hW3, hg]
  have H0 := Lib.hid h0
  clear hA hB hC hBW hW3 hg h0 HB3
  go_wp2_with fail
  refine (parseR_any _ _ (by decide)).mono ?_
  rintro e w4 ⟨v4, he, hrd4, hb⟩
  rw [show bts _ = t1A from rfl, aw_p1] at he hrd4
  obtain ⟨A4, c4, rfl, _, _⟩ := hrd4.form
  rw [show lA.length = 2 from rfl] at he hrd4
  subst he
  have HRL := Lib.hid hrd4
  have H1 := Lib.hid (H0.out.next hb)
  clear hb hrd4 H0
  go_wp2_with fail
  refine (parseX_any _ _ (by decide)).mono ?_
  rintro e w5 ⟨A5, c5, he, hrd5, hb⟩
  rw [show bts _ = t2A from rfl, aw_p2] at he hrd5
  subst he
  have HRL5 := Lib.hid (HRL.out.next hb)
  have H5 := Lib.hid (H1.out.next hb)
  clear hb hrd5 H1 HRL
  go_upto_region 4 with fail
  have hb6 := (Below.refl w5.heap.size w5).alloc (Nat.le_refl _) (.cells #[.int .i64 Ex.zero.op, .int .i64 Ex.zero.n, .string (str Ex.zero.name), .slice A5 Ex.zero.kids.toList.length c5] 24)
  obtain ⟨W6, hW6⟩ : ∃ W, w5.alloc (.cells #[.int .i64 Ex.zero.op, .int .i64 Ex.zero.n, .string (str Ex.zero.name), .slice A5 Ex.zero.kids.toList.length c5] 24) = W := ⟨_, rfl⟩
  rw [hW6] at hb6 ⊢
  have HRL6 := Lib.hid (HRL5.out.next hb6)
  have H6 := Lib.hid (H5.out.next hb6)
  clear hb6 hW6 H5 HRL5
  go_wp2_with fail
  refine (parseX_any _ _ (by decide)).mono ?_
  rintro e w7 ⟨A7, c7, he, hrd7, hb⟩
  rw [show bts _ = t3A from rfl, aw_p3] at he hrd7
  subst he
  have HRL7 := Lib.hid (HRL6.out.next hb)
  have H7 := Lib.hid (H6.out.next hb)
  clear hb hrd7 H6 HRL6
  go_upto_region 5 with fail
  have hb8 := (Below.refl w7.heap.size w7).alloc (Nat.le_refl _) (.cells #[.int .i64 Ex.zero.op, .int .i64 Ex.zero.n, .string (str Ex.zero.name), .slice A7 Ex.zero.kids.toList.length c7] 24)
  obtain ⟨W8, hW8⟩ : ∃ W, w7.alloc (.cells #[.int .i64 Ex.zero.op, .int .i64 Ex.zero.n, .string (str Ex.zero.name), .slice A7 Ex.zero.kids.toList.length c7] 24) = W := ⟨_, rfl⟩
  rw [hW8] at hb8 ⊢
  have HRL8 := Lib.hid (HRL7.out.next hb8)
  have H8 := Lib.hid (H7.out.next hb8)
  clear hb8 hW8 H7 HRL7
  go_cut [13] from 36 (fun v wc => ∃ (gx : Nat) (sx : Value), v = .pointer (some ⟨gx, 0, none⟩) ∧ VarE wc gx xA sx ∧ Below W8.heap.size W8 wc)
  case first =>
    have CA := Lib.hid (fun (V : World) (h : Below W8.heap.size W8 V) => (H8.out.next h).1.leafC)
    have CB := Lib.hid (fun (V : World) (h : Below W8.heap.size W8 V) => (H8.out.next h).2.1.leafC)
    have CC := Lib.hid (fun (V : World) (h : Below W8.heap.size W8 V) => leaf2 (H8.out.next h).2.2.1)
    refine wp_region_held_drew (S := fun V => Below W8.heap.size W8 V) (by kernel_rfl) (Below.refl _ _).drew (fun hS => ?_)
    refine wpAnyH_take (i := 0) (v := ?_) rfl (by kernel_rfl) (by kernel_rfl) (by kernel_rfl) (fun _ _ _ h => h) (Or.inl ⟨by rfl, ?_⟩) hS ?_
    rotate_left
    · intro V hSw; obtain ⟨q0, q1, q2, q3⟩ := CA.out V hSw; go_simp; with_reducible rfl
    try simp only [Act.put, List.setIfInBounds_toArray]
    refine wpAnyH_take (i := 1) (v := ?_) rfl (by kernel_rfl) (by kernel_rfl) (by kernel_rfl) (fun _ _ _ h => h) (Or.inl ⟨by rfl, ?_⟩) hS ?_
    rotate_left
    · intro V hSw; obtain ⟨q0, q1, q2, q3⟩ := CB.out V hSw; go_simp; with_reducible rfl
    try simp only [Act.put]
    refine wpAnyH_take (i := 6) (v := ?_) rfl (by kernel_rfl) (by kernel_rfl) (by kernel_rfl) (fun _ _ _ h => h) (Or.inl ⟨by rfl, ?_⟩) hS ?_
    rotate_left
    · intro V hSw; obtain ⟨q0, q1, q2, q3⟩ := CC.out V hSw; go_simp; with_reducible rfl
    try simp only [Act.put]
    obtain ⟨V0, hV0⟩ : ∃ V, World.drew W8 = V := ⟨_, rfl⟩
    rw [hV0] at hS ⊢
    have HBV0 := Lib.hid hS
    clear hS hV0
    refine wpAnyH_ready (rs := [2, 12]) (by kernel_rfl) (by simp) ?_
    refine AllReadyH.cons rfl (fun K hK => ?_) ?_
    · skip
      go_simp
      refine hK.out _ _ (bel_alloc HBV0.out) (fun _ => ?_)
      clear hK K
      have hb := (Below.refl V0.heap.size V0).alloc (Nat.le_refl _) (.cells #[.int .i64 2, .int .i64 0, .string (str aA), .slice none 0 0, .int .i64 2, .int .i64 0, .string (str bA), .slice none 0 0] 24)
      have hc := heap_alloc_last V0 (.cells #[.int .i64 2, .int .i64 0, .string (str aA), .slice none 0 0, .int .i64 2, .int .i64 0, .string (str bA), .slice none 0 0] 24)
      obtain ⟨V1, hV⟩ : ∃ V, V0.alloc (.cells #[.int .i64 2, .int .i64 0, .string (str aA), .slice none 0 0, .int .i64 2, .int .i64 0, .string (str bA), .slice none 0 0] 24) = V := ⟨_, rfl⟩
      rw [hV] at hb hc ⊢
      have HBV1 := Lib.hid (bel_call HBV0.out hb)
      have C_V1 := Lib.hid hc
      clear hV hb hc
      refine wpAnyH_ready (rs := [3, 12]) (by kernel_rfl) (by simp) ?_
      refine AllReadyH.cons rfl (fun K hK => ?_) ?_
      · skip
        go_simp
        refine (xo_any _ 6 _ _ _).mono ?_
        rintro e V2 ⟨he, hb⟩
        subst he
        go_wp2_with fail
        refine hK.out _ _ (bel_call HBV1.out hb) (fun _ => ?_)
        clear hK K
        have E39_V2 := Lib.hid (show KE V2 (two 6 (vE aA) (vE bA)) (.slice (some ⟨V0.heap.size, 0, none⟩) 2 2) from KE.two (x := (vE aA)) (y := (vE bA)) C_V1.out (KE.leaf _ _ _ _) (KE.leaf _ _ _ _) hb 6)
        have HBV2 := Lib.hid (bel_call HBV1.out hb)
        clear hb
        refine wpAnyH_ready (rs := [4, 12]) (by kernel_rfl) (by simp) ?_
        refine AllReadyH.cons rfl (fun K hK => ?_) ?_
        · skip
          go_simp
          refine hK.out _ _ (bel_alloc HBV2.out) (fun _ => ?_)
          clear hK K
          have hb := (Below.refl V2.heap.size V2).alloc (Nat.le_refl _) (.cells #[.int .i64 6, .int .i64 0, .string (str []), .slice (some ⟨V0.heap.size, 0, none⟩) 2 2] 24)
          have hc := heap_alloc_last V2 (.cells #[.int .i64 6, .int .i64 0, .string (str []), .slice (some ⟨V0.heap.size, 0, none⟩) 2 2] 24)
          obtain ⟨V3, hV⟩ : ∃ V, V2.alloc (.cells #[.int .i64 6, .int .i64 0, .string (str []), .slice (some ⟨V0.heap.size, 0, none⟩) 2 2] 24) = V := ⟨_, rfl⟩
          rw [hV] at hb hc ⊢
          have HBV3 := Lib.hid (bel_call HBV2.out hb)
          have E39_V3 := Lib.hid (E39_V2.out.next hb)
          have C_V3 := Lib.hid hc
          clear hV hb hc
          refine wpAnyH_ready (rs := [5, 12]) (by kernel_rfl) (by simp) ?_
          refine AllReadyH.cons rfl (fun K hK => ?_) ?_
          · skip
            go_simp
            refine (xo_any _ 9 _ _ _).mono ?_
            rintro e V4 ⟨he, hb⟩
            subst he
            go_wp2_with fail
            refine hK.out _ _ (bel_call HBV3.out hb) (fun _ => ?_)
            clear hK K
            have E41_V4 := Lib.hid (show KE V4 (one 9 (two 6 (vE aA) (vE bA))) (.slice (some ⟨V2.heap.size, 0, none⟩) 1 1) from KE.one (x := (two 6 (vE aA) (vE bA))) C_V3.out E39_V3.out hb 9)
            have HBV4 := Lib.hid (bel_call HBV3.out hb)
            clear hb
            refine wpAnyH_ready (rs := [7, 12]) (by kernel_rfl) (by simp) ?_
            refine AllReadyH.cons rfl (fun K hK => ?_) ?_
            · skip
              go_simp
              refine (xn_any (3) _).mono ?_
              rintro e V5 ⟨he, hb⟩
              subst he
              go_wp2_with fail
              refine hK.out _ _ (bel_call HBV4.out hb) (fun _ => ?_)
              clear hK K
              have HBV5 := Lib.hid (bel_call HBV4.out hb)
              have E41_V5 := Lib.hid (E41_V4.out.next hb)
              clear hb
              refine wpAnyH_ready (rs := [8, 12]) (by kernel_rfl) (by simp) ?_
              refine AllReadyH.cons rfl (fun K hK => ?_) ?_
              · skip
                go_simp
                refine hK.out _ _ (bel_alloc HBV5.out) (fun _ => ?_)
                clear hK K
                have hb := (Below.refl V5.heap.size V5).alloc (Nat.le_refl _) (.cells #[.int .i64 2, .int .i64 0, .string (str cA), .slice none 0 0, .int .i64 1, .int .i64 (3), .string (str []), .slice none 0 0] 24)
                have hc := heap_alloc_last V5 (.cells #[.int .i64 2, .int .i64 0, .string (str cA), .slice none 0 0, .int .i64 1, .int .i64 (3), .string (str []), .slice none 0 0] 24)
                obtain ⟨V6, hV⟩ : ∃ V, V5.alloc (.cells #[.int .i64 2, .int .i64 0, .string (str cA), .slice none 0 0, .int .i64 1, .int .i64 (3), .string (str []), .slice none 0 0] 24) = V := ⟨_, rfl⟩
                rw [hV] at hb hc ⊢
                have HBV6 := Lib.hid (bel_call HBV5.out hb)
                have E41_V6 := Lib.hid (E41_V5.out.next hb)
                have C_V6 := Lib.hid hc
                clear hV hb hc
                refine wpAnyH_ready (rs := [9, 12]) (by kernel_rfl) (by simp) ?_
                refine AllReadyH.cons rfl (fun K hK => ?_) ?_
                · skip
                  go_simp
                  refine (xo_any _ 7 _ _ _).mono ?_
                  rintro e V7 ⟨he, hb⟩
                  subst he
                  go_wp2_with fail
                  refine hK.out _ _ (bel_call HBV6.out hb) (fun _ => ?_)
                  clear hK K
                  have E45_V7 := Lib.hid (show KE V7 (two 7 (vE cA) (nE (3))) (.slice (some ⟨V5.heap.size, 0, none⟩) 2 2) from KE.two (x := (vE cA)) (y := (nE (3))) C_V6.out (KE.leaf _ _ _ _) (KE.leaf _ _ _ _) hb 7)
                  have HBV7 := Lib.hid (bel_call HBV6.out hb)
                  have E41_V7 := Lib.hid (E41_V6.out.next hb)
                  clear hb
                  refine wpAnyH_ready (rs := [10, 12]) (by kernel_rfl) (by simp) ?_
                  refine AllReadyH.cons rfl (fun K hK => ?_) ?_
                  · skip
                    go_simp
                    refine hK.out _ _ (bel_alloc HBV7.out) (fun _ => ?_)
                    clear hK K
                    have hb := (Below.refl V7.heap.size V7).alloc (Nat.le_refl _) (.cells #[.int .i64 9, .int .i64 0, .string (str []), .slice (some ⟨V2.heap.size, 0, none⟩) 1 1, .int .i64 7, .int .i64 0, .string (str []), .slice (some ⟨V5.heap.size, 0, none⟩) 2 2] 24)
                    have hc := heap_alloc_last V7 (.cells #[.int .i64 9, .int .i64 0, .string (str []), .slice (some ⟨V2.heap.size, 0, none⟩) 1 1, .int .i64 7, .int .i64 0, .string (str []), .slice (some ⟨V5.heap.size, 0, none⟩) 2 2] 24)
                    obtain ⟨V8, hV⟩ : ∃ V, V7.alloc (.cells #[.int .i64 9, .int .i64 0, .string (str []), .slice (some ⟨V2.heap.size, 0, none⟩) 1 1, .int .i64 7, .int .i64 0, .string (str []), .slice (some ⟨V5.heap.size, 0, none⟩) 2 2] 24) = V := ⟨_, rfl⟩
                    rw [hV] at hb hc ⊢
                    have HBV8 := Lib.hid (bel_call HBV7.out hb)
                    have E41_V8 := Lib.hid (E41_V7.out.next hb)
                    have E45_V8 := Lib.hid (E45_V7.out.next hb)
                    have C_V8 := Lib.hid hc
                    clear hV hb hc
                    refine wpAnyH_ready (rs := [11, 12]) (by kernel_rfl) (by simp) ?_
                    refine AllReadyH.cons rfl (fun K hK => ?_) ?_
                    · skip
                      go_simp
                      refine (xo_any _ 11 _ _ _).mono ?_
                      rintro e V9 ⟨he, hb⟩
                      subst he
                      go_wp2_with fail
                      refine hK.out _ _ (bel_call HBV8.out hb) (fun _ => ?_)
                      clear hK K
                      have E47_V9 := Lib.hid (show KE V9 (two 11 (one 9 (two 6 (vE aA) (vE bA))) (two 7 (vE cA) (nE (3)))) (.slice (some ⟨V7.heap.size, 0, none⟩) 2 2) from KE.two (x := (one 9 (two 6 (vE aA) (vE bA)))) (y := (two 7 (vE cA) (nE (3)))) C_V8.out E41_V8.out E45_V8.out hb 11)
                      have HBV9 := Lib.hid (bel_call HBV8.out hb)
                      clear hb
                      refine wpAnyH_ready (rs := [12]) (by kernel_rfl) (by simp) ?_
                      refine AllReadyH.cons rfl (fun K hK => ?_) AllReadyH.nil
                      go_simp
                      refine hK.out _ _ (bel_alloc HBV9.out) (fun _ => ?_)
                      clear hK K
                      have hb := (Below.refl V9.heap.size V9).alloc (Nat.le_refl _) (.cells #[.int .i64 0, .int .i64 0, .string ⟨#[]⟩, .slice none 0 0] 24)
                      have hc := heap_alloc_last V9 (.cells #[.int .i64 0, .int .i64 0, .string ⟨#[]⟩, .slice none 0 0] 24)
                      have hge := HBV9.out.size
                      have hx47 := E47_V9.out.apart (.cells #[.int .i64 0, .int .i64 0, .string ⟨#[]⟩, .slice none 0 0] 24)
                      obtain ⟨V10, hV⟩ : ∃ V, V9.alloc (.cells #[.int .i64 0, .int .i64 0, .string ⟨#[]⟩, .slice none 0 0] 24) = V := ⟨_, rfl⟩
                      rw [hV] at hb hc hx47 ⊢
                      have HBV10 := Lib.hid (bel_call HBV9.out hb)
                      have E47_V10 := Lib.hid hx47
                      have Z_V10 := Lib.hid hc
                      have HGE := Lib.hid hge
                      clear hV hb hc hge hx47
                      refine wpAnyH_ready (rs := [13]) (by kernel_rfl) (by simp) ?_
                      refine AllReadyH.cons rfl (fun K hK => ?_) AllReadyH.nil
                      obtain ⟨⟨z0, z1, z2, z3⟩, y0, y1, y2, y3⟩ := zero_cells Z_V10.out
                      go_simp
                      have hfin := VarE.put (x := two 11 (one 9 (two 6 (vE aA) (vE bA))) (two 7 (vE cA) (nE (3)))) (sv := .slice (some ⟨V7.heap.size, 0, none⟩) 2 2) Z_V10.out E47_V10.out
                      have hbe := HBV10.out.setRow HGE.out #[.int .i64 11, .int .i64 0, .string (str []), .slice (some ⟨V7.heap.size, 0, none⟩) 2 2]
                      rw [set4_row Z_V10.out rfl]
                      refine hK.out _ _ hbe (fun _ => ?_)
                      clear hK K
                      refine wpAnyH_done (by kernel_rfl) ?_ _
                      go_wp2_with fail
                      go_meet
                      exact ⟨_, _, rfl, hfin, hbe⟩
                    refine AllReadyH.cons rfl (fun K hK => ?_) AllReadyH.nil
                    go_simp
                    refine hK.out _ _ (bel_alloc HBV8.out) (fun _ => ?_)
                    clear hK K
                    have hb := (Below.refl V8.heap.size V8).alloc (Nat.le_refl _) (.cells #[.int .i64 0, .int .i64 0, .string ⟨#[]⟩, .slice none 0 0] 24)
                    have hc := heap_alloc_last V8 (.cells #[.int .i64 0, .int .i64 0, .string ⟨#[]⟩, .slice none 0 0] 24)
                    have hge := HBV8.out.size
                    have hx41 := E41_V8.out.apart (.cells #[.int .i64 0, .int .i64 0, .string ⟨#[]⟩, .slice none 0 0] 24)
                    have hx45 := E45_V8.out.apart (.cells #[.int .i64 0, .int .i64 0, .string ⟨#[]⟩, .slice none 0 0] 24)
                    have hn := (Array.getElem?_eq_some_iff.1 C_V8.out).1
                    obtain ⟨V11, hV⟩ : ∃ V, V8.alloc (.cells #[.int .i64 0, .int .i64 0, .string ⟨#[]⟩, .slice none 0 0] 24) = V := ⟨_, rfl⟩
                    rw [hV] at hb hc hx41 hx45 ⊢
                    have HBV11 := Lib.hid (bel_call HBV8.out hb)
                    have E41_V11 := Lib.hid hx41
                    have E45_V11 := Lib.hid hx45
                    have Z_V11 := Lib.hid hc
                    have HGE := Lib.hid hge
                    have C_V11 := Lib.hid ((hb.block _ hn).trans C_V8.out)
                    have N_V11 := Lib.hid (Nat.ne_of_lt hn)
                    clear hn
                    clear hV hb hc hge hx41 hx45
                    refine wpAnyH_ready (rs := [11]) (by kernel_rfl) (by simp) ?_
                    refine AllReadyH.cons rfl (fun K hK => ?_) AllReadyH.nil
                    go_simp
                    refine (xo_any _ 11 _ _ _).mono ?_
                    rintro e V12 ⟨he, hb⟩
                    subst he
                    go_wp2_with fail
                    refine hK.out _ _ (bel_call HBV11.out hb) (fun _ => ?_)
                    clear hK K
                    have E47_V12 := Lib.hid (show KEx V12 (V8.heap.size) (two 11 (one 9 (two 6 (vE aA) (vE bA))) (two 7 (vE cA) (nE (3)))) (.slice (some ⟨V7.heap.size, 0, none⟩) 2 2) from KEx.two (x := (one 9 (two 6 (vE aA) (vE bA)))) (y := (two 7 (vE cA) (nE (3)))) C_V11.out (N_V11.out) E41_V11.out E45_V11.out hb 11)
                    have HBV12 := Lib.hid (bel_call HBV11.out hb)
                    have Z_V12 := Lib.hid ((hb.block _ (Array.getElem?_eq_some_iff.1 Z_V11.out).1).trans Z_V11.out)
                    clear hb
                    refine wpAnyH_ready (rs := [13]) (by kernel_rfl) (by simp) ?_
                    refine AllReadyH.cons rfl (fun K hK => ?_) AllReadyH.nil
                    obtain ⟨⟨z0, z1, z2, z3⟩, y0, y1, y2, y3⟩ := zero_cells Z_V12.out
                    go_simp
                    have hfin := VarE.put (x := two 11 (one 9 (two 6 (vE aA) (vE bA))) (two 7 (vE cA) (nE (3)))) (sv := .slice (some ⟨V7.heap.size, 0, none⟩) 2 2) Z_V12.out E47_V12.out
                    have hbe := HBV12.out.setRow HGE.out #[.int .i64 11, .int .i64 0, .string (str []), .slice (some ⟨V7.heap.size, 0, none⟩) 2 2]
                    rw [set4_row Z_V12.out rfl]
                    refine hK.out _ _ hbe (fun _ => ?_)
                    clear hK K
                    refine wpAnyH_done (by kernel_rfl) ?_ _
                    go_wp2_with fail
                    go_meet
                    exact ⟨_, _, rfl, hfin, hbe⟩
                  refine AllReadyH.cons rfl (fun K hK => ?_) AllReadyH.nil
                  go_simp
                  refine hK.out _ _ (bel_alloc HBV7.out) (fun _ => ?_)
                  clear hK K
                  have hb := (Below.refl V7.heap.size V7).alloc (Nat.le_refl _) (.cells #[.int .i64 0, .int .i64 0, .string ⟨#[]⟩, .slice none 0 0] 24)
                  have hc := heap_alloc_last V7 (.cells #[.int .i64 0, .int .i64 0, .string ⟨#[]⟩, .slice none 0 0] 24)
                  have hge := HBV7.out.size
                  have hx41 := E41_V7.out.apart (.cells #[.int .i64 0, .int .i64 0, .string ⟨#[]⟩, .slice none 0 0] 24)
                  have hx45 := E45_V7.out.apart (.cells #[.int .i64 0, .int .i64 0, .string ⟨#[]⟩, .slice none 0 0] 24)
                  obtain ⟨V13, hV⟩ : ∃ V, V7.alloc (.cells #[.int .i64 0, .int .i64 0, .string ⟨#[]⟩, .slice none 0 0] 24) = V := ⟨_, rfl⟩
                  rw [hV] at hb hc hx41 hx45 ⊢
                  have HBV13 := Lib.hid (bel_call HBV7.out hb)
                  have E41_V13 := Lib.hid hx41
                  have E45_V13 := Lib.hid hx45
                  have Z_V13 := Lib.hid hc
                  have HGE := Lib.hid hge
                  clear hV hb hc hge hx41 hx45
                  refine wpAnyH_ready (rs := [10]) (by kernel_rfl) (by simp) ?_
                  refine AllReadyH.cons rfl (fun K hK => ?_) AllReadyH.nil
                  go_simp
                  refine hK.out _ _ (bel_alloc HBV13.out) (fun _ => ?_)
                  clear hK K
                  have hb := (Below.refl V13.heap.size V13).alloc (Nat.le_refl _) (.cells #[.int .i64 9, .int .i64 0, .string (str []), .slice (some ⟨V2.heap.size, 0, none⟩) 1 1, .int .i64 7, .int .i64 0, .string (str []), .slice (some ⟨V5.heap.size, 0, none⟩) 2 2] 24)
                  have hc := heap_alloc_last V13 (.cells #[.int .i64 9, .int .i64 0, .string (str []), .slice (some ⟨V2.heap.size, 0, none⟩) 1 1, .int .i64 7, .int .i64 0, .string (str []), .slice (some ⟨V5.heap.size, 0, none⟩) 2 2] 24)
                  have N_V14 := Lib.hid (Nat.ne_of_gt (Array.getElem?_eq_some_iff.1 Z_V13.out).1)
                  obtain ⟨V14, hV⟩ : ∃ V, V13.alloc (.cells #[.int .i64 9, .int .i64 0, .string (str []), .slice (some ⟨V2.heap.size, 0, none⟩) 1 1, .int .i64 7, .int .i64 0, .string (str []), .slice (some ⟨V5.heap.size, 0, none⟩) 2 2] 24) = V := ⟨_, rfl⟩
                  rw [hV] at hb hc ⊢
                  have HBV14 := Lib.hid (bel_call HBV13.out hb)
                  have E41_V14 := Lib.hid (E41_V13.out.next hb)
                  have E45_V14 := Lib.hid (E45_V13.out.next hb)
                  have Z_V14 := Lib.hid ((hb.block _ (Array.getElem?_eq_some_iff.1 Z_V13.out).1).trans Z_V13.out)
                  have C_V14 := Lib.hid hc
                  clear hV hb hc
                  refine wpAnyH_ready (rs := [11]) (by kernel_rfl) (by simp) ?_
                  refine AllReadyH.cons rfl (fun K hK => ?_) AllReadyH.nil
                  go_simp
                  refine (xo_any _ 11 _ _ _).mono ?_
                  rintro e V15 ⟨he, hb⟩
                  subst he
                  go_wp2_with fail
                  refine hK.out _ _ (bel_call HBV14.out hb) (fun _ => ?_)
                  clear hK K
                  have E47_V15 := Lib.hid (show KEx V15 (V7.heap.size) (two 11 (one 9 (two 6 (vE aA) (vE bA))) (two 7 (vE cA) (nE (3)))) (.slice (some ⟨V13.heap.size, 0, none⟩) 2 2) from KEx.two (x := (one 9 (two 6 (vE aA) (vE bA)))) (y := (two 7 (vE cA) (nE (3)))) C_V14.out (N_V14.out) E41_V14.out E45_V14.out hb 11)
                  have HBV15 := Lib.hid (bel_call HBV14.out hb)
                  have Z_V15 := Lib.hid ((hb.block _ (Array.getElem?_eq_some_iff.1 Z_V14.out).1).trans Z_V14.out)
                  clear hb
                  refine wpAnyH_ready (rs := [13]) (by kernel_rfl) (by simp) ?_
                  refine AllReadyH.cons rfl (fun K hK => ?_) AllReadyH.nil
                  obtain ⟨⟨z0, z1, z2, z3⟩, y0, y1, y2, y3⟩ := zero_cells Z_V15.out
                  go_simp
                  have hfin := VarE.put (x := two 11 (one 9 (two 6 (vE aA) (vE bA))) (two 7 (vE cA) (nE (3)))) (sv := .slice (some ⟨V13.heap.size, 0, none⟩) 2 2) Z_V15.out E47_V15.out
                  have hbe := HBV15.out.setRow HGE.out #[.int .i64 11, .int .i64 0, .string (str []), .slice (some ⟨V13.heap.size, 0, none⟩) 2 2]
                  rw [set4_row Z_V15.out rfl]
                  refine hK.out _ _ hbe (fun _ => ?_)
                  clear hK K
                  refine wpAnyH_done (by kernel_rfl) ?_ _
                  go_wp2_with fail
                  go_meet
                  exact ⟨_, _, rfl, hfin, hbe⟩
                refine AllReadyH.cons rfl (fun K hK => ?_) AllReadyH.nil
                go_simp
                refine hK.out _ _ (bel_alloc HBV6.out) (fun _ => ?_)
                clear hK K
                have hb := (Below.refl V6.heap.size V6).alloc (Nat.le_refl _) (.cells #[.int .i64 0, .int .i64 0, .string ⟨#[]⟩, .slice none 0 0] 24)
                have hc := heap_alloc_last V6 (.cells #[.int .i64 0, .int .i64 0, .string ⟨#[]⟩, .slice none 0 0] 24)
                have hge := HBV6.out.size
                have hx41 := E41_V6.out.apart (.cells #[.int .i64 0, .int .i64 0, .string ⟨#[]⟩, .slice none 0 0] 24)
                have hn := (Array.getElem?_eq_some_iff.1 C_V6.out).1
                obtain ⟨V16, hV⟩ : ∃ V, V6.alloc (.cells #[.int .i64 0, .int .i64 0, .string ⟨#[]⟩, .slice none 0 0] 24) = V := ⟨_, rfl⟩
                rw [hV] at hb hc hx41 ⊢
                have HBV16 := Lib.hid (bel_call HBV6.out hb)
                have E41_V16 := Lib.hid hx41
                have Z_V16 := Lib.hid hc
                have HGE := Lib.hid hge
                have C_V16 := Lib.hid ((hb.block _ hn).trans C_V6.out)
                have N_V16 := Lib.hid (Nat.ne_of_lt hn)
                clear hn
                clear hV hb hc hge hx41
                refine wpAnyH_ready (rs := [9]) (by kernel_rfl) (by simp) ?_
                refine AllReadyH.cons rfl (fun K hK => ?_) AllReadyH.nil
                go_simp
                refine (xo_any _ 7 _ _ _).mono ?_
                rintro e V17 ⟨he, hb⟩
                subst he
                go_wp2_with fail
                refine hK.out _ _ (bel_call HBV16.out hb) (fun _ => ?_)
                clear hK K
                have E45_V17 := Lib.hid (show KEx V17 (V6.heap.size) (two 7 (vE cA) (nE (3))) (.slice (some ⟨V5.heap.size, 0, none⟩) 2 2) from KEx.two (x := (vE cA)) (y := (nE (3))) C_V16.out (N_V16.out) (KEx.leaf _ _ _ _ _) (KEx.leaf _ _ _ _ _) hb 7)
                have HBV17 := Lib.hid (bel_call HBV16.out hb)
                have E41_V17 := Lib.hid (E41_V16.out.next hb)
                have Z_V17 := Lib.hid ((hb.block _ (Array.getElem?_eq_some_iff.1 Z_V16.out).1).trans Z_V16.out)
                clear hb
                refine wpAnyH_ready (rs := [10]) (by kernel_rfl) (by simp) ?_
                refine AllReadyH.cons rfl (fun K hK => ?_) AllReadyH.nil
                go_simp
                refine hK.out _ _ (bel_alloc HBV17.out) (fun _ => ?_)
                clear hK K
                have hb := (Below.refl V17.heap.size V17).alloc (Nat.le_refl _) (.cells #[.int .i64 9, .int .i64 0, .string (str []), .slice (some ⟨V2.heap.size, 0, none⟩) 1 1, .int .i64 7, .int .i64 0, .string (str []), .slice (some ⟨V5.heap.size, 0, none⟩) 2 2] 24)
                have hc := heap_alloc_last V17 (.cells #[.int .i64 9, .int .i64 0, .string (str []), .slice (some ⟨V2.heap.size, 0, none⟩) 1 1, .int .i64 7, .int .i64 0, .string (str []), .slice (some ⟨V5.heap.size, 0, none⟩) 2 2] 24)
                have N_V18 := Lib.hid (Nat.ne_of_gt (Array.getElem?_eq_some_iff.1 Z_V17.out).1)
                obtain ⟨V18, hV⟩ : ∃ V, V17.alloc (.cells #[.int .i64 9, .int .i64 0, .string (str []), .slice (some ⟨V2.heap.size, 0, none⟩) 1 1, .int .i64 7, .int .i64 0, .string (str []), .slice (some ⟨V5.heap.size, 0, none⟩) 2 2] 24) = V := ⟨_, rfl⟩
                rw [hV] at hb hc ⊢
                have HBV18 := Lib.hid (bel_call HBV17.out hb)
                have E41_V18 := Lib.hid (E41_V17.out.next hb)
                have E45_V18 := Lib.hid (E45_V17.out.next hb)
                have Z_V18 := Lib.hid ((hb.block _ (Array.getElem?_eq_some_iff.1 Z_V17.out).1).trans Z_V17.out)
                have C_V18 := Lib.hid hc
                clear hV hb hc
                refine wpAnyH_ready (rs := [11]) (by kernel_rfl) (by simp) ?_
                refine AllReadyH.cons rfl (fun K hK => ?_) AllReadyH.nil
                go_simp
                refine (xo_any _ 11 _ _ _).mono ?_
                rintro e V19 ⟨he, hb⟩
                subst he
                go_wp2_with fail
                refine hK.out _ _ (bel_call HBV18.out hb) (fun _ => ?_)
                clear hK K
                have E47_V19 := Lib.hid (show KEx V19 (V6.heap.size) (two 11 (one 9 (two 6 (vE aA) (vE bA))) (two 7 (vE cA) (nE (3)))) (.slice (some ⟨V17.heap.size, 0, none⟩) 2 2) from KEx.two (x := (one 9 (two 6 (vE aA) (vE bA)))) (y := (two 7 (vE cA) (nE (3)))) C_V18.out (N_V18.out) E41_V18.out E45_V18.out hb 11)
                have HBV19 := Lib.hid (bel_call HBV18.out hb)
                have Z_V19 := Lib.hid ((hb.block _ (Array.getElem?_eq_some_iff.1 Z_V18.out).1).trans Z_V18.out)
                clear hb
                refine wpAnyH_ready (rs := [13]) (by kernel_rfl) (by simp) ?_
                refine AllReadyH.cons rfl (fun K hK => ?_) AllReadyH.nil
                obtain ⟨⟨z0, z1, z2, z3⟩, y0, y1, y2, y3⟩ := zero_cells Z_V19.out
                go_simp
                have hfin := VarE.put (x := two 11 (one 9 (two 6 (vE aA) (vE bA))) (two 7 (vE cA) (nE (3)))) (sv := .slice (some ⟨V17.heap.size, 0, none⟩) 2 2) Z_V19.out E47_V19.out
                have hbe := HBV19.out.setRow HGE.out #[.int .i64 11, .int .i64 0, .string (str []), .slice (some ⟨V17.heap.size, 0, none⟩) 2 2]
                rw [set4_row Z_V19.out rfl]
                refine hK.out _ _ hbe (fun _ => ?_)
                clear hK K
                refine wpAnyH_done (by kernel_rfl) ?_ _
                go_wp2_with fail
                go_meet
                exact ⟨_, _, rfl, hfin, hbe⟩
              refine AllReadyH.cons rfl (fun K hK => ?_) AllReadyH.nil
              go_simp
              refine hK.out _ _ (bel_alloc HBV5.out) (fun _ => ?_)
              clear hK K
              have hb := (Below.refl V5.heap.size V5).alloc (Nat.le_refl _) (.cells #[.int .i64 0, .int .i64 0, .string ⟨#[]⟩, .slice none 0 0] 24)
              have hc := heap_alloc_last V5 (.cells #[.int .i64 0, .int .i64 0, .string ⟨#[]⟩, .slice none 0 0] 24)
              have hge := HBV5.out.size
              have hx41 := E41_V5.out.apart (.cells #[.int .i64 0, .int .i64 0, .string ⟨#[]⟩, .slice none 0 0] 24)
              obtain ⟨V20, hV⟩ : ∃ V, V5.alloc (.cells #[.int .i64 0, .int .i64 0, .string ⟨#[]⟩, .slice none 0 0] 24) = V := ⟨_, rfl⟩
              rw [hV] at hb hc hx41 ⊢
              have HBV20 := Lib.hid (bel_call HBV5.out hb)
              have E41_V20 := Lib.hid hx41
              have Z_V20 := Lib.hid hc
              have HGE := Lib.hid hge
              clear hV hb hc hge hx41
              refine wpAnyH_ready (rs := [8]) (by kernel_rfl) (by simp) ?_
              refine AllReadyH.cons rfl (fun K hK => ?_) AllReadyH.nil
              go_simp
              refine hK.out _ _ (bel_alloc HBV20.out) (fun _ => ?_)
              clear hK K
              have hb := (Below.refl V20.heap.size V20).alloc (Nat.le_refl _) (.cells #[.int .i64 2, .int .i64 0, .string (str cA), .slice none 0 0, .int .i64 1, .int .i64 (3), .string (str []), .slice none 0 0] 24)
              have hc := heap_alloc_last V20 (.cells #[.int .i64 2, .int .i64 0, .string (str cA), .slice none 0 0, .int .i64 1, .int .i64 (3), .string (str []), .slice none 0 0] 24)
              have N_V21 := Lib.hid (Nat.ne_of_gt (Array.getElem?_eq_some_iff.1 Z_V20.out).1)
              obtain ⟨V21, hV⟩ : ∃ V, V20.alloc (.cells #[.int .i64 2, .int .i64 0, .string (str cA), .slice none 0 0, .int .i64 1, .int .i64 (3), .string (str []), .slice none 0 0] 24) = V := ⟨_, rfl⟩
              rw [hV] at hb hc ⊢
              have HBV21 := Lib.hid (bel_call HBV20.out hb)
              have E41_V21 := Lib.hid (E41_V20.out.next hb)
              have Z_V21 := Lib.hid ((hb.block _ (Array.getElem?_eq_some_iff.1 Z_V20.out).1).trans Z_V20.out)
              have C_V21 := Lib.hid hc
              clear hV hb hc
              refine wpAnyH_ready (rs := [9]) (by kernel_rfl) (by simp) ?_
              refine AllReadyH.cons rfl (fun K hK => ?_) AllReadyH.nil
              go_simp
              refine (xo_any _ 7 _ _ _).mono ?_
              rintro e V22 ⟨he, hb⟩
              subst he
              go_wp2_with fail
              refine hK.out _ _ (bel_call HBV21.out hb) (fun _ => ?_)
              clear hK K
              have E45_V22 := Lib.hid (show KEx V22 (V5.heap.size) (two 7 (vE cA) (nE (3))) (.slice (some ⟨V20.heap.size, 0, none⟩) 2 2) from KEx.two (x := (vE cA)) (y := (nE (3))) C_V21.out (N_V21.out) (KEx.leaf _ _ _ _ _) (KEx.leaf _ _ _ _ _) hb 7)
              have HBV22 := Lib.hid (bel_call HBV21.out hb)
              have E41_V22 := Lib.hid (E41_V21.out.next hb)
              have Z_V22 := Lib.hid ((hb.block _ (Array.getElem?_eq_some_iff.1 Z_V21.out).1).trans Z_V21.out)
              clear hb
              refine wpAnyH_ready (rs := [10]) (by kernel_rfl) (by simp) ?_
              refine AllReadyH.cons rfl (fun K hK => ?_) AllReadyH.nil
              go_simp
              refine hK.out _ _ (bel_alloc HBV22.out) (fun _ => ?_)
              clear hK K
              have hb := (Below.refl V22.heap.size V22).alloc (Nat.le_refl _) (.cells #[.int .i64 9, .int .i64 0, .string (str []), .slice (some ⟨V2.heap.size, 0, none⟩) 1 1, .int .i64 7, .int .i64 0, .string (str []), .slice (some ⟨V20.heap.size, 0, none⟩) 2 2] 24)
              have hc := heap_alloc_last V22 (.cells #[.int .i64 9, .int .i64 0, .string (str []), .slice (some ⟨V2.heap.size, 0, none⟩) 1 1, .int .i64 7, .int .i64 0, .string (str []), .slice (some ⟨V20.heap.size, 0, none⟩) 2 2] 24)
              have N_V23 := Lib.hid (Nat.ne_of_gt (Array.getElem?_eq_some_iff.1 Z_V22.out).1)
              obtain ⟨V23, hV⟩ : ∃ V, V22.alloc (.cells #[.int .i64 9, .int .i64 0, .string (str []), .slice (some ⟨V2.heap.size, 0, none⟩) 1 1, .int .i64 7, .int .i64 0, .string (str []), .slice (some ⟨V20.heap.size, 0, none⟩) 2 2] 24) = V := ⟨_, rfl⟩
              rw [hV] at hb hc ⊢
              have HBV23 := Lib.hid (bel_call HBV22.out hb)
              have E41_V23 := Lib.hid (E41_V22.out.next hb)
              have E45_V23 := Lib.hid (E45_V22.out.next hb)
              have Z_V23 := Lib.hid ((hb.block _ (Array.getElem?_eq_some_iff.1 Z_V22.out).1).trans Z_V22.out)
              have C_V23 := Lib.hid hc
              clear hV hb hc
              refine wpAnyH_ready (rs := [11]) (by kernel_rfl) (by simp) ?_
              refine AllReadyH.cons rfl (fun K hK => ?_) AllReadyH.nil
              go_simp
              refine (xo_any _ 11 _ _ _).mono ?_
              rintro e V24 ⟨he, hb⟩
              subst he
              go_wp2_with fail
              refine hK.out _ _ (bel_call HBV23.out hb) (fun _ => ?_)
              clear hK K
              have E47_V24 := Lib.hid (show KEx V24 (V5.heap.size) (two 11 (one 9 (two 6 (vE aA) (vE bA))) (two 7 (vE cA) (nE (3)))) (.slice (some ⟨V22.heap.size, 0, none⟩) 2 2) from KEx.two (x := (one 9 (two 6 (vE aA) (vE bA)))) (y := (two 7 (vE cA) (nE (3)))) C_V23.out (N_V23.out) E41_V23.out E45_V23.out hb 11)
              have HBV24 := Lib.hid (bel_call HBV23.out hb)
              have Z_V24 := Lib.hid ((hb.block _ (Array.getElem?_eq_some_iff.1 Z_V23.out).1).trans Z_V23.out)
              clear hb
              refine wpAnyH_ready (rs := [13]) (by kernel_rfl) (by simp) ?_
              refine AllReadyH.cons rfl (fun K hK => ?_) AllReadyH.nil
              obtain ⟨⟨z0, z1, z2, z3⟩, y0, y1, y2, y3⟩ := zero_cells Z_V24.out
              go_simp
              have hfin := VarE.put (x := two 11 (one 9 (two 6 (vE aA) (vE bA))) (two 7 (vE cA) (nE (3)))) (sv := .slice (some ⟨V22.heap.size, 0, none⟩) 2 2) Z_V24.out E47_V24.out
              have hbe := HBV24.out.setRow HGE.out #[.int .i64 11, .int .i64 0, .string (str []), .slice (some ⟨V22.heap.size, 0, none⟩) 2 2]
              rw [set4_row Z_V24.out rfl]
              refine hK.out _ _ hbe (fun _ => ?_)
              clear hK K
              refine wpAnyH_done (by kernel_rfl) ?_ _
              go_wp2_with fail
              go_meet
              exact ⟨_, _, rfl, hfin, hbe⟩
            refine AllReadyH.cons rfl (fun K hK => ?_) AllReadyH.nil
            go_simp
            refine hK.out _ _ (bel_alloc HBV4.out) (fun _ => ?_)
            clear hK K
            have hb := (Below.refl V4.heap.size V4).alloc (Nat.le_refl _) (.cells #[.int .i64 0, .int .i64 0, .string ⟨#[]⟩, .slice none 0 0] 24)
            have hc := heap_alloc_last V4 (.cells #[.int .i64 0, .int .i64 0, .string ⟨#[]⟩, .slice none 0 0] 24)
            have hge := HBV4.out.size
            have hx41 := E41_V4.out.apart (.cells #[.int .i64 0, .int .i64 0, .string ⟨#[]⟩, .slice none 0 0] 24)
            obtain ⟨V25, hV⟩ : ∃ V, V4.alloc (.cells #[.int .i64 0, .int .i64 0, .string ⟨#[]⟩, .slice none 0 0] 24) = V := ⟨_, rfl⟩
            rw [hV] at hb hc hx41 ⊢
            have HBV25 := Lib.hid (bel_call HBV4.out hb)
            have E41_V25 := Lib.hid hx41
            have Z_V25 := Lib.hid hc
            have HGE := Lib.hid hge
            clear hV hb hc hge hx41
            refine wpAnyH_ready (rs := [7]) (by kernel_rfl) (by simp) ?_
            refine AllReadyH.cons rfl (fun K hK => ?_) AllReadyH.nil
            go_simp
            refine (xn_any (3) _).mono ?_
            rintro e V26 ⟨he, hb⟩
            subst he
            go_wp2_with fail
            refine hK.out _ _ (bel_call HBV25.out hb) (fun _ => ?_)
            clear hK K
            have HBV26 := Lib.hid (bel_call HBV25.out hb)
            have E41_V26 := Lib.hid (E41_V25.out.next hb)
            have Z_V26 := Lib.hid ((hb.block _ (Array.getElem?_eq_some_iff.1 Z_V25.out).1).trans Z_V25.out)
            clear hb
            refine wpAnyH_ready (rs := [8]) (by kernel_rfl) (by simp) ?_
            refine AllReadyH.cons rfl (fun K hK => ?_) AllReadyH.nil
            go_simp
            refine hK.out _ _ (bel_alloc HBV26.out) (fun _ => ?_)
            clear hK K
            have hb := (Below.refl V26.heap.size V26).alloc (Nat.le_refl _) (.cells #[.int .i64 2, .int .i64 0, .string (str cA), .slice none 0 0, .int .i64 1, .int .i64 (3), .string (str []), .slice none 0 0] 24)
            have hc := heap_alloc_last V26 (.cells #[.int .i64 2, .int .i64 0, .string (str cA), .slice none 0 0, .int .i64 1, .int .i64 (3), .string (str []), .slice none 0 0] 24)
            have N_V27 := Lib.hid (Nat.ne_of_gt (Array.getElem?_eq_some_iff.1 Z_V26.out).1)
            obtain ⟨V27, hV⟩ : ∃ V, V26.alloc (.cells #[.int .i64 2, .int .i64 0, .string (str cA), .slice none 0 0, .int .i64 1, .int .i64 (3), .string (str []), .slice none 0 0] 24) = V := ⟨_, rfl⟩
            rw [hV] at hb hc ⊢
            have HBV27 := Lib.hid (bel_call HBV26.out hb)
            have E41_V27 := Lib.hid (E41_V26.out.next hb)
            have Z_V27 := Lib.hid ((hb.block _ (Array.getElem?_eq_some_iff.1 Z_V26.out).1).trans Z_V26.out)
            have C_V27 := Lib.hid hc
            clear hV hb hc
            refine wpAnyH_ready (rs := [9]) (by kernel_rfl) (by simp) ?_
            refine AllReadyH.cons rfl (fun K hK => ?_) AllReadyH.nil
            go_simp
            refine (xo_any _ 7 _ _ _).mono ?_
            rintro e V28 ⟨he, hb⟩
            subst he
            go_wp2_with fail
            refine hK.out _ _ (bel_call HBV27.out hb) (fun _ => ?_)
            clear hK K
            have E45_V28 := Lib.hid (show KEx V28 (V4.heap.size) (two 7 (vE cA) (nE (3))) (.slice (some ⟨V26.heap.size, 0, none⟩) 2 2) from KEx.two (x := (vE cA)) (y := (nE (3))) C_V27.out (N_V27.out) (KEx.leaf _ _ _ _ _) (KEx.leaf _ _ _ _ _) hb 7)
            have HBV28 := Lib.hid (bel_call HBV27.out hb)
            have E41_V28 := Lib.hid (E41_V27.out.next hb)
            have Z_V28 := Lib.hid ((hb.block _ (Array.getElem?_eq_some_iff.1 Z_V27.out).1).trans Z_V27.out)
            clear hb
            refine wpAnyH_ready (rs := [10]) (by kernel_rfl) (by simp) ?_
            refine AllReadyH.cons rfl (fun K hK => ?_) AllReadyH.nil
            go_simp
            refine hK.out _ _ (bel_alloc HBV28.out) (fun _ => ?_)
            clear hK K
            have hb := (Below.refl V28.heap.size V28).alloc (Nat.le_refl _) (.cells #[.int .i64 9, .int .i64 0, .string (str []), .slice (some ⟨V2.heap.size, 0, none⟩) 1 1, .int .i64 7, .int .i64 0, .string (str []), .slice (some ⟨V26.heap.size, 0, none⟩) 2 2] 24)
            have hc := heap_alloc_last V28 (.cells #[.int .i64 9, .int .i64 0, .string (str []), .slice (some ⟨V2.heap.size, 0, none⟩) 1 1, .int .i64 7, .int .i64 0, .string (str []), .slice (some ⟨V26.heap.size, 0, none⟩) 2 2] 24)
            have N_V29 := Lib.hid (Nat.ne_of_gt (Array.getElem?_eq_some_iff.1 Z_V28.out).1)
            obtain ⟨V29, hV⟩ : ∃ V, V28.alloc (.cells #[.int .i64 9, .int .i64 0, .string (str []), .slice (some ⟨V2.heap.size, 0, none⟩) 1 1, .int .i64 7, .int .i64 0, .string (str []), .slice (some ⟨V26.heap.size, 0, none⟩) 2 2] 24) = V := ⟨_, rfl⟩
            rw [hV] at hb hc ⊢
            have HBV29 := Lib.hid (bel_call HBV28.out hb)
            have E41_V29 := Lib.hid (E41_V28.out.next hb)
            have E45_V29 := Lib.hid (E45_V28.out.next hb)
            have Z_V29 := Lib.hid ((hb.block _ (Array.getElem?_eq_some_iff.1 Z_V28.out).1).trans Z_V28.out)
            have C_V29 := Lib.hid hc
            clear hV hb hc
            refine wpAnyH_ready (rs := [11]) (by kernel_rfl) (by simp) ?_
            refine AllReadyH.cons rfl (fun K hK => ?_) AllReadyH.nil
            go_simp
            refine (xo_any _ 11 _ _ _).mono ?_
            rintro e V30 ⟨he, hb⟩
            subst he
            go_wp2_with fail
            refine hK.out _ _ (bel_call HBV29.out hb) (fun _ => ?_)
            clear hK K
            have E47_V30 := Lib.hid (show KEx V30 (V4.heap.size) (two 11 (one 9 (two 6 (vE aA) (vE bA))) (two 7 (vE cA) (nE (3)))) (.slice (some ⟨V28.heap.size, 0, none⟩) 2 2) from KEx.two (x := (one 9 (two 6 (vE aA) (vE bA)))) (y := (two 7 (vE cA) (nE (3)))) C_V29.out (N_V29.out) E41_V29.out E45_V29.out hb 11)
            have HBV30 := Lib.hid (bel_call HBV29.out hb)
            have Z_V30 := Lib.hid ((hb.block _ (Array.getElem?_eq_some_iff.1 Z_V29.out).1).trans Z_V29.out)
            clear hb
            refine wpAnyH_ready (rs := [13]) (by kernel_rfl) (by simp) ?_
            refine AllReadyH.cons rfl (fun K hK => ?_) AllReadyH.nil
            obtain ⟨⟨z0, z1, z2, z3⟩, y0, y1, y2, y3⟩ := zero_cells Z_V30.out
            go_simp
            have hfin := VarE.put (x := two 11 (one 9 (two 6 (vE aA) (vE bA))) (two 7 (vE cA) (nE (3)))) (sv := .slice (some ⟨V28.heap.size, 0, none⟩) 2 2) Z_V30.out E47_V30.out
            have hbe := HBV30.out.setRow HGE.out #[.int .i64 11, .int .i64 0, .string (str []), .slice (some ⟨V28.heap.size, 0, none⟩) 2 2]
            rw [set4_row Z_V30.out rfl]
            refine hK.out _ _ hbe (fun _ => ?_)
            clear hK K
            refine wpAnyH_done (by kernel_rfl) ?_ _
            go_wp2_with fail
            go_meet
            exact ⟨_, _, rfl, hfin, hbe⟩
          refine AllReadyH.cons rfl (fun K hK => ?_) AllReadyH.nil
          go_simp
          refine hK.out _ _ (bel_alloc HBV3.out) (fun _ => ?_)
          clear hK K
          have hb := (Below.refl V3.heap.size V3).alloc (Nat.le_refl _) (.cells #[.int .i64 0, .int .i64 0, .string ⟨#[]⟩, .slice none 0 0] 24)
          have hc := heap_alloc_last V3 (.cells #[.int .i64 0, .int .i64 0, .string ⟨#[]⟩, .slice none 0 0] 24)
          have hge := HBV3.out.size
          have hx39 := E39_V3.out.apart (.cells #[.int .i64 0, .int .i64 0, .string ⟨#[]⟩, .slice none 0 0] 24)
          have hn := (Array.getElem?_eq_some_iff.1 C_V3.out).1
          obtain ⟨V31, hV⟩ : ∃ V, V3.alloc (.cells #[.int .i64 0, .int .i64 0, .string ⟨#[]⟩, .slice none 0 0] 24) = V := ⟨_, rfl⟩
          rw [hV] at hb hc hx39 ⊢
          have HBV31 := Lib.hid (bel_call HBV3.out hb)
          have E39_V31 := Lib.hid hx39
          have Z_V31 := Lib.hid hc
          have HGE := Lib.hid hge
          have C_V31 := Lib.hid ((hb.block _ hn).trans C_V3.out)
          have N_V31 := Lib.hid (Nat.ne_of_lt hn)
          clear hn
          clear hV hb hc hge hx39
          refine wpAnyH_ready (rs := [5]) (by kernel_rfl) (by simp) ?_
          refine AllReadyH.cons rfl (fun K hK => ?_) AllReadyH.nil
          go_simp
          refine (xo_any _ 9 _ _ _).mono ?_
          rintro e V32 ⟨he, hb⟩
          subst he
          go_wp2_with fail
          refine hK.out _ _ (bel_call HBV31.out hb) (fun _ => ?_)
          clear hK K
          have E41_V32 := Lib.hid (show KEx V32 (V3.heap.size) (one 9 (two 6 (vE aA) (vE bA))) (.slice (some ⟨V2.heap.size, 0, none⟩) 1 1) from KEx.one (x := (two 6 (vE aA) (vE bA))) C_V31.out (N_V31.out) E39_V31.out hb 9)
          have HBV32 := Lib.hid (bel_call HBV31.out hb)
          have Z_V32 := Lib.hid ((hb.block _ (Array.getElem?_eq_some_iff.1 Z_V31.out).1).trans Z_V31.out)
          clear hb
          refine wpAnyH_ready (rs := [7]) (by kernel_rfl) (by simp) ?_
          refine AllReadyH.cons rfl (fun K hK => ?_) AllReadyH.nil
          go_simp
          refine (xn_any (3) _).mono ?_
          rintro e V33 ⟨he, hb⟩
          subst he
          go_wp2_with fail
          refine hK.out _ _ (bel_call HBV32.out hb) (fun _ => ?_)
          clear hK K
          have HBV33 := Lib.hid (bel_call HBV32.out hb)
          have E41_V33 := Lib.hid (E41_V32.out.next hb)
          have Z_V33 := Lib.hid ((hb.block _ (Array.getElem?_eq_some_iff.1 Z_V32.out).1).trans Z_V32.out)
          clear hb
          refine wpAnyH_ready (rs := [8]) (by kernel_rfl) (by simp) ?_
          refine AllReadyH.cons rfl (fun K hK => ?_) AllReadyH.nil
          go_simp
          refine hK.out _ _ (bel_alloc HBV33.out) (fun _ => ?_)
          clear hK K
          have hb := (Below.refl V33.heap.size V33).alloc (Nat.le_refl _) (.cells #[.int .i64 2, .int .i64 0, .string (str cA), .slice none 0 0, .int .i64 1, .int .i64 (3), .string (str []), .slice none 0 0] 24)
          have hc := heap_alloc_last V33 (.cells #[.int .i64 2, .int .i64 0, .string (str cA), .slice none 0 0, .int .i64 1, .int .i64 (3), .string (str []), .slice none 0 0] 24)
          have N_V34 := Lib.hid (Nat.ne_of_gt (Array.getElem?_eq_some_iff.1 Z_V33.out).1)
          obtain ⟨V34, hV⟩ : ∃ V, V33.alloc (.cells #[.int .i64 2, .int .i64 0, .string (str cA), .slice none 0 0, .int .i64 1, .int .i64 (3), .string (str []), .slice none 0 0] 24) = V := ⟨_, rfl⟩
          rw [hV] at hb hc ⊢
          have HBV34 := Lib.hid (bel_call HBV33.out hb)
          have E41_V34 := Lib.hid (E41_V33.out.next hb)
          have Z_V34 := Lib.hid ((hb.block _ (Array.getElem?_eq_some_iff.1 Z_V33.out).1).trans Z_V33.out)
          have C_V34 := Lib.hid hc
          clear hV hb hc
          refine wpAnyH_ready (rs := [9]) (by kernel_rfl) (by simp) ?_
          refine AllReadyH.cons rfl (fun K hK => ?_) AllReadyH.nil
          go_simp
          refine (xo_any _ 7 _ _ _).mono ?_
          rintro e V35 ⟨he, hb⟩
          subst he
          go_wp2_with fail
          refine hK.out _ _ (bel_call HBV34.out hb) (fun _ => ?_)
          clear hK K
          have E45_V35 := Lib.hid (show KEx V35 (V3.heap.size) (two 7 (vE cA) (nE (3))) (.slice (some ⟨V33.heap.size, 0, none⟩) 2 2) from KEx.two (x := (vE cA)) (y := (nE (3))) C_V34.out (N_V34.out) (KEx.leaf _ _ _ _ _) (KEx.leaf _ _ _ _ _) hb 7)
          have HBV35 := Lib.hid (bel_call HBV34.out hb)
          have E41_V35 := Lib.hid (E41_V34.out.next hb)
          have Z_V35 := Lib.hid ((hb.block _ (Array.getElem?_eq_some_iff.1 Z_V34.out).1).trans Z_V34.out)
          clear hb
          refine wpAnyH_ready (rs := [10]) (by kernel_rfl) (by simp) ?_
          refine AllReadyH.cons rfl (fun K hK => ?_) AllReadyH.nil
          go_simp
          refine hK.out _ _ (bel_alloc HBV35.out) (fun _ => ?_)
          clear hK K
          have hb := (Below.refl V35.heap.size V35).alloc (Nat.le_refl _) (.cells #[.int .i64 9, .int .i64 0, .string (str []), .slice (some ⟨V2.heap.size, 0, none⟩) 1 1, .int .i64 7, .int .i64 0, .string (str []), .slice (some ⟨V33.heap.size, 0, none⟩) 2 2] 24)
          have hc := heap_alloc_last V35 (.cells #[.int .i64 9, .int .i64 0, .string (str []), .slice (some ⟨V2.heap.size, 0, none⟩) 1 1, .int .i64 7, .int .i64 0, .string (str []), .slice (some ⟨V33.heap.size, 0, none⟩) 2 2] 24)
          have N_V36 := Lib.hid (Nat.ne_of_gt (Array.getElem?_eq_some_iff.1 Z_V35.out).1)
          obtain ⟨V36, hV⟩ : ∃ V, V35.alloc (.cells #[.int .i64 9, .int .i64 0, .string (str []), .slice (some ⟨V2.heap.size, 0, none⟩) 1 1, .int .i64 7, .int .i64 0, .string (str []), .slice (some ⟨V33.heap.size, 0, none⟩) 2 2] 24) = V := ⟨_, rfl⟩
          rw [hV] at hb hc ⊢
          have HBV36 := Lib.hid (bel_call HBV35.out hb)
          have E41_V36 := Lib.hid (E41_V35.out.next hb)
          have E45_V36 := Lib.hid (E45_V35.out.next hb)
          have Z_V36 := Lib.hid ((hb.block _ (Array.getElem?_eq_some_iff.1 Z_V35.out).1).trans Z_V35.out)
          have C_V36 := Lib.hid hc
          clear hV hb hc
          refine wpAnyH_ready (rs := [11]) (by kernel_rfl) (by simp) ?_
          refine AllReadyH.cons rfl (fun K hK => ?_) AllReadyH.nil
          go_simp
          refine (xo_any _ 11 _ _ _).mono ?_
          rintro e V37 ⟨he, hb⟩
          subst he
          go_wp2_with fail
          refine hK.out _ _ (bel_call HBV36.out hb) (fun _ => ?_)
          clear hK K
          have E47_V37 := Lib.hid (show KEx V37 (V3.heap.size) (two 11 (one 9 (two 6 (vE aA) (vE bA))) (two 7 (vE cA) (nE (3)))) (.slice (some ⟨V35.heap.size, 0, none⟩) 2 2) from KEx.two (x := (one 9 (two 6 (vE aA) (vE bA)))) (y := (two 7 (vE cA) (nE (3)))) C_V36.out (N_V36.out) E41_V36.out E45_V36.out hb 11)
          have HBV37 := Lib.hid (bel_call HBV36.out hb)
          have Z_V37 := Lib.hid ((hb.block _ (Array.getElem?_eq_some_iff.1 Z_V36.out).1).trans Z_V36.out)
          clear hb
          refine wpAnyH_ready (rs := [13]) (by kernel_rfl) (by simp) ?_
          refine AllReadyH.cons rfl (fun K hK => ?_) AllReadyH.nil
          obtain ⟨⟨z0, z1, z2, z3⟩, y0, y1, y2, y3⟩ := zero_cells Z_V37.out
          go_simp
          have hfin := VarE.put (x := two 11 (one 9 (two 6 (vE aA) (vE bA))) (two 7 (vE cA) (nE (3)))) (sv := .slice (some ⟨V35.heap.size, 0, none⟩) 2 2) Z_V37.out E47_V37.out
          have hbe := HBV37.out.setRow HGE.out #[.int .i64 11, .int .i64 0, .string (str []), .slice (some ⟨V35.heap.size, 0, none⟩) 2 2]
          rw [set4_row Z_V37.out rfl]
          refine hK.out _ _ hbe (fun _ => ?_)
          clear hK K
          refine wpAnyH_done (by kernel_rfl) ?_ _
          go_wp2_with fail
          go_meet
          exact ⟨_, _, rfl, hfin, hbe⟩
        refine AllReadyH.cons rfl (fun K hK => ?_) AllReadyH.nil
        go_simp
        refine hK.out _ _ (bel_alloc HBV2.out) (fun _ => ?_)
        clear hK K
        have hb := (Below.refl V2.heap.size V2).alloc (Nat.le_refl _) (.cells #[.int .i64 0, .int .i64 0, .string ⟨#[]⟩, .slice none 0 0] 24)
        have hc := heap_alloc_last V2 (.cells #[.int .i64 0, .int .i64 0, .string ⟨#[]⟩, .slice none 0 0] 24)
        have hge := HBV2.out.size
        have hx39 := E39_V2.out.apart (.cells #[.int .i64 0, .int .i64 0, .string ⟨#[]⟩, .slice none 0 0] 24)
        obtain ⟨V38, hV⟩ : ∃ V, V2.alloc (.cells #[.int .i64 0, .int .i64 0, .string ⟨#[]⟩, .slice none 0 0] 24) = V := ⟨_, rfl⟩
        rw [hV] at hb hc hx39 ⊢
        have HBV38 := Lib.hid (bel_call HBV2.out hb)
        have E39_V38 := Lib.hid hx39
        have Z_V38 := Lib.hid hc
        have HGE := Lib.hid hge
        clear hV hb hc hge hx39
        refine wpAnyH_ready (rs := [4]) (by kernel_rfl) (by simp) ?_
        refine AllReadyH.cons rfl (fun K hK => ?_) AllReadyH.nil
        go_simp
        refine hK.out _ _ (bel_alloc HBV38.out) (fun _ => ?_)
        clear hK K
        have hb := (Below.refl V38.heap.size V38).alloc (Nat.le_refl _) (.cells #[.int .i64 6, .int .i64 0, .string (str []), .slice (some ⟨V0.heap.size, 0, none⟩) 2 2] 24)
        have hc := heap_alloc_last V38 (.cells #[.int .i64 6, .int .i64 0, .string (str []), .slice (some ⟨V0.heap.size, 0, none⟩) 2 2] 24)
        have N_V39 := Lib.hid (Nat.ne_of_gt (Array.getElem?_eq_some_iff.1 Z_V38.out).1)
        obtain ⟨V39, hV⟩ : ∃ V, V38.alloc (.cells #[.int .i64 6, .int .i64 0, .string (str []), .slice (some ⟨V0.heap.size, 0, none⟩) 2 2] 24) = V := ⟨_, rfl⟩
        rw [hV] at hb hc ⊢
        have HBV39 := Lib.hid (bel_call HBV38.out hb)
        have E39_V39 := Lib.hid (E39_V38.out.next hb)
        have Z_V39 := Lib.hid ((hb.block _ (Array.getElem?_eq_some_iff.1 Z_V38.out).1).trans Z_V38.out)
        have C_V39 := Lib.hid hc
        clear hV hb hc
        refine wpAnyH_ready (rs := [5]) (by kernel_rfl) (by simp) ?_
        refine AllReadyH.cons rfl (fun K hK => ?_) AllReadyH.nil
        go_simp
        refine (xo_any _ 9 _ _ _).mono ?_
        rintro e V40 ⟨he, hb⟩
        subst he
        go_wp2_with fail
        refine hK.out _ _ (bel_call HBV39.out hb) (fun _ => ?_)
        clear hK K
        have E41_V40 := Lib.hid (show KEx V40 (V2.heap.size) (one 9 (two 6 (vE aA) (vE bA))) (.slice (some ⟨V38.heap.size, 0, none⟩) 1 1) from KEx.one (x := (two 6 (vE aA) (vE bA))) C_V39.out (N_V39.out) E39_V39.out hb 9)
        have HBV40 := Lib.hid (bel_call HBV39.out hb)
        have Z_V40 := Lib.hid ((hb.block _ (Array.getElem?_eq_some_iff.1 Z_V39.out).1).trans Z_V39.out)
        clear hb
        refine wpAnyH_ready (rs := [7]) (by kernel_rfl) (by simp) ?_
        refine AllReadyH.cons rfl (fun K hK => ?_) AllReadyH.nil
        go_simp
        refine (xn_any (3) _).mono ?_
        rintro e V41 ⟨he, hb⟩
        subst he
        go_wp2_with fail
        refine hK.out _ _ (bel_call HBV40.out hb) (fun _ => ?_)
        clear hK K
        have HBV41 := Lib.hid (bel_call HBV40.out hb)
        have E41_V41 := Lib.hid (E41_V40.out.next hb)
        have Z_V41 := Lib.hid ((hb.block _ (Array.getElem?_eq_some_iff.1 Z_V40.out).1).trans Z_V40.out)
        clear hb
        refine wpAnyH_ready (rs := [8]) (by kernel_rfl) (by simp) ?_
        refine AllReadyH.cons rfl (fun K hK => ?_) AllReadyH.nil
        go_simp
        refine hK.out _ _ (bel_alloc HBV41.out) (fun _ => ?_)
        clear hK K
        have hb := (Below.refl V41.heap.size V41).alloc (Nat.le_refl _) (.cells #[.int .i64 2, .int .i64 0, .string (str cA), .slice none 0 0, .int .i64 1, .int .i64 (3), .string (str []), .slice none 0 0] 24)
        have hc := heap_alloc_last V41 (.cells #[.int .i64 2, .int .i64 0, .string (str cA), .slice none 0 0, .int .i64 1, .int .i64 (3), .string (str []), .slice none 0 0] 24)
        have N_V42 := Lib.hid (Nat.ne_of_gt (Array.getElem?_eq_some_iff.1 Z_V41.out).1)
        obtain ⟨V42, hV⟩ : ∃ V, V41.alloc (.cells #[.int .i64 2, .int .i64 0, .string (str cA), .slice none 0 0, .int .i64 1, .int .i64 (3), .string (str []), .slice none 0 0] 24) = V := ⟨_, rfl⟩
        rw [hV] at hb hc ⊢
        have HBV42 := Lib.hid (bel_call HBV41.out hb)
        have E41_V42 := Lib.hid (E41_V41.out.next hb)
        have Z_V42 := Lib.hid ((hb.block _ (Array.getElem?_eq_some_iff.1 Z_V41.out).1).trans Z_V41.out)
        have C_V42 := Lib.hid hc
        clear hV hb hc
        refine wpAnyH_ready (rs := [9]) (by kernel_rfl) (by simp) ?_
        refine AllReadyH.cons rfl (fun K hK => ?_) AllReadyH.nil
        go_simp
        refine (xo_any _ 7 _ _ _).mono ?_
        rintro e V43 ⟨he, hb⟩
        subst he
        go_wp2_with fail
        refine hK.out _ _ (bel_call HBV42.out hb) (fun _ => ?_)
        clear hK K
        have E45_V43 := Lib.hid (show KEx V43 (V2.heap.size) (two 7 (vE cA) (nE (3))) (.slice (some ⟨V41.heap.size, 0, none⟩) 2 2) from KEx.two (x := (vE cA)) (y := (nE (3))) C_V42.out (N_V42.out) (KEx.leaf _ _ _ _ _) (KEx.leaf _ _ _ _ _) hb 7)
        have HBV43 := Lib.hid (bel_call HBV42.out hb)
        have E41_V43 := Lib.hid (E41_V42.out.next hb)
        have Z_V43 := Lib.hid ((hb.block _ (Array.getElem?_eq_some_iff.1 Z_V42.out).1).trans Z_V42.out)
        clear hb
        refine wpAnyH_ready (rs := [10]) (by kernel_rfl) (by simp) ?_
        refine AllReadyH.cons rfl (fun K hK => ?_) AllReadyH.nil
        go_simp
        refine hK.out _ _ (bel_alloc HBV43.out) (fun _ => ?_)
        clear hK K
        have hb := (Below.refl V43.heap.size V43).alloc (Nat.le_refl _) (.cells #[.int .i64 9, .int .i64 0, .string (str []), .slice (some ⟨V38.heap.size, 0, none⟩) 1 1, .int .i64 7, .int .i64 0, .string (str []), .slice (some ⟨V41.heap.size, 0, none⟩) 2 2] 24)
        have hc := heap_alloc_last V43 (.cells #[.int .i64 9, .int .i64 0, .string (str []), .slice (some ⟨V38.heap.size, 0, none⟩) 1 1, .int .i64 7, .int .i64 0, .string (str []), .slice (some ⟨V41.heap.size, 0, none⟩) 2 2] 24)
        have N_V44 := Lib.hid (Nat.ne_of_gt (Array.getElem?_eq_some_iff.1 Z_V43.out).1)
        obtain ⟨V44, hV⟩ : ∃ V, V43.alloc (.cells #[.int .i64 9, .int .i64 0, .string (str []), .slice (some ⟨V38.heap.size, 0, none⟩) 1 1, .int .i64 7, .int .i64 0, .string (str []), .slice (some ⟨V41.heap.size, 0, none⟩) 2 2] 24) = V := ⟨_, rfl⟩
        rw [hV] at hb hc ⊢
        have HBV44 := Lib.hid (bel_call HBV43.out hb)
        have E41_V44 := Lib.hid (E41_V43.out.next hb)
        have E45_V44 := Lib.hid (E45_V43.out.next hb)
        have Z_V44 := Lib.hid ((hb.block _ (Array.getElem?_eq_some_iff.1 Z_V43.out).1).trans Z_V43.out)
        have C_V44 := Lib.hid hc
        clear hV hb hc
        refine wpAnyH_ready (rs := [11]) (by kernel_rfl) (by simp) ?_
        refine AllReadyH.cons rfl (fun K hK => ?_) AllReadyH.nil
        go_simp
        refine (xo_any _ 11 _ _ _).mono ?_
        rintro e V45 ⟨he, hb⟩
        subst he
        go_wp2_with fail
        refine hK.out _ _ (bel_call HBV44.out hb) (fun _ => ?_)
        clear hK K
        have E47_V45 := Lib.hid (show KEx V45 (V2.heap.size) (two 11 (one 9 (two 6 (vE aA) (vE bA))) (two 7 (vE cA) (nE (3)))) (.slice (some ⟨V43.heap.size, 0, none⟩) 2 2) from KEx.two (x := (one 9 (two 6 (vE aA) (vE bA)))) (y := (two 7 (vE cA) (nE (3)))) C_V44.out (N_V44.out) E41_V44.out E45_V44.out hb 11)
        have HBV45 := Lib.hid (bel_call HBV44.out hb)
        have Z_V45 := Lib.hid ((hb.block _ (Array.getElem?_eq_some_iff.1 Z_V44.out).1).trans Z_V44.out)
        clear hb
        refine wpAnyH_ready (rs := [13]) (by kernel_rfl) (by simp) ?_
        refine AllReadyH.cons rfl (fun K hK => ?_) AllReadyH.nil
        obtain ⟨⟨z0, z1, z2, z3⟩, y0, y1, y2, y3⟩ := zero_cells Z_V45.out
        go_simp
        have hfin := VarE.put (x := two 11 (one 9 (two 6 (vE aA) (vE bA))) (two 7 (vE cA) (nE (3)))) (sv := .slice (some ⟨V43.heap.size, 0, none⟩) 2 2) Z_V45.out E47_V45.out
        have hbe := HBV45.out.setRow HGE.out #[.int .i64 11, .int .i64 0, .string (str []), .slice (some ⟨V43.heap.size, 0, none⟩) 2 2]
        rw [set4_row Z_V45.out rfl]
        refine hK.out _ _ hbe (fun _ => ?_)
        clear hK K
        refine wpAnyH_done (by kernel_rfl) ?_ _
        go_wp2_with fail
        go_meet
        exact ⟨_, _, rfl, hfin, hbe⟩
      refine AllReadyH.cons rfl (fun K hK => ?_) AllReadyH.nil
      go_simp
      refine hK.out _ _ (bel_alloc HBV1.out) (fun _ => ?_)
      clear hK K
      have hb := (Below.refl V1.heap.size V1).alloc (Nat.le_refl _) (.cells #[.int .i64 0, .int .i64 0, .string ⟨#[]⟩, .slice none 0 0] 24)
      have hc := heap_alloc_last V1 (.cells #[.int .i64 0, .int .i64 0, .string ⟨#[]⟩, .slice none 0 0] 24)
      have hge := HBV1.out.size
      have hn := (Array.getElem?_eq_some_iff.1 C_V1.out).1
      obtain ⟨V46, hV⟩ : ∃ V, V1.alloc (.cells #[.int .i64 0, .int .i64 0, .string ⟨#[]⟩, .slice none 0 0] 24) = V := ⟨_, rfl⟩
      rw [hV] at hb hc ⊢
      have HBV46 := Lib.hid (bel_call HBV1.out hb)
      have Z_V46 := Lib.hid hc
      have HGE := Lib.hid hge
      have C_V46 := Lib.hid ((hb.block _ hn).trans C_V1.out)
      have N_V46 := Lib.hid (Nat.ne_of_lt hn)
      clear hn
      clear hV hb hc hge 
      refine wpAnyH_ready (rs := [3]) (by kernel_rfl) (by simp) ?_
      refine AllReadyH.cons rfl (fun K hK => ?_) AllReadyH.nil
      go_simp
      refine (xo_any _ 6 _ _ _).mono ?_
      rintro e V47 ⟨he, hb⟩
      subst he
      go_wp2_with fail
      refine hK.out _ _ (bel_call HBV46.out hb) (fun _ => ?_)
      clear hK K
      have E39_V47 := Lib.hid (show KEx V47 (V1.heap.size) (two 6 (vE aA) (vE bA)) (.slice (some ⟨V0.heap.size, 0, none⟩) 2 2) from KEx.two (x := (vE aA)) (y := (vE bA)) C_V46.out (N_V46.out) (KEx.leaf _ _ _ _ _) (KEx.leaf _ _ _ _ _) hb 6)
      have HBV47 := Lib.hid (bel_call HBV46.out hb)
      have Z_V47 := Lib.hid ((hb.block _ (Array.getElem?_eq_some_iff.1 Z_V46.out).1).trans Z_V46.out)
      clear hb
      refine wpAnyH_ready (rs := [4]) (by kernel_rfl) (by simp) ?_
      refine AllReadyH.cons rfl (fun K hK => ?_) AllReadyH.nil
      go_simp
      refine hK.out _ _ (bel_alloc HBV47.out) (fun _ => ?_)
      clear hK K
      have hb := (Below.refl V47.heap.size V47).alloc (Nat.le_refl _) (.cells #[.int .i64 6, .int .i64 0, .string (str []), .slice (some ⟨V0.heap.size, 0, none⟩) 2 2] 24)
      have hc := heap_alloc_last V47 (.cells #[.int .i64 6, .int .i64 0, .string (str []), .slice (some ⟨V0.heap.size, 0, none⟩) 2 2] 24)
      have N_V48 := Lib.hid (Nat.ne_of_gt (Array.getElem?_eq_some_iff.1 Z_V47.out).1)
      obtain ⟨V48, hV⟩ : ∃ V, V47.alloc (.cells #[.int .i64 6, .int .i64 0, .string (str []), .slice (some ⟨V0.heap.size, 0, none⟩) 2 2] 24) = V := ⟨_, rfl⟩
      rw [hV] at hb hc ⊢
      have HBV48 := Lib.hid (bel_call HBV47.out hb)
      have E39_V48 := Lib.hid (E39_V47.out.next hb)
      have Z_V48 := Lib.hid ((hb.block _ (Array.getElem?_eq_some_iff.1 Z_V47.out).1).trans Z_V47.out)
      have C_V48 := Lib.hid hc
      clear hV hb hc
      refine wpAnyH_ready (rs := [5]) (by kernel_rfl) (by simp) ?_
      refine AllReadyH.cons rfl (fun K hK => ?_) AllReadyH.nil
      go_simp
      refine (xo_any _ 9 _ _ _).mono ?_
      rintro e V49 ⟨he, hb⟩
      subst he
      go_wp2_with fail
      refine hK.out _ _ (bel_call HBV48.out hb) (fun _ => ?_)
      clear hK K
      have E41_V49 := Lib.hid (show KEx V49 (V1.heap.size) (one 9 (two 6 (vE aA) (vE bA))) (.slice (some ⟨V47.heap.size, 0, none⟩) 1 1) from KEx.one (x := (two 6 (vE aA) (vE bA))) C_V48.out (N_V48.out) E39_V48.out hb 9)
      have HBV49 := Lib.hid (bel_call HBV48.out hb)
      have Z_V49 := Lib.hid ((hb.block _ (Array.getElem?_eq_some_iff.1 Z_V48.out).1).trans Z_V48.out)
      clear hb
      refine wpAnyH_ready (rs := [7]) (by kernel_rfl) (by simp) ?_
      refine AllReadyH.cons rfl (fun K hK => ?_) AllReadyH.nil
      go_simp
      refine (xn_any (3) _).mono ?_
      rintro e V50 ⟨he, hb⟩
      subst he
      go_wp2_with fail
      refine hK.out _ _ (bel_call HBV49.out hb) (fun _ => ?_)
      clear hK K
      have HBV50 := Lib.hid (bel_call HBV49.out hb)
      have E41_V50 := Lib.hid (E41_V49.out.next hb)
      have Z_V50 := Lib.hid ((hb.block _ (Array.getElem?_eq_some_iff.1 Z_V49.out).1).trans Z_V49.out)
      clear hb
      refine wpAnyH_ready (rs := [8]) (by kernel_rfl) (by simp) ?_
      refine AllReadyH.cons rfl (fun K hK => ?_) AllReadyH.nil
      go_simp
      refine hK.out _ _ (bel_alloc HBV50.out) (fun _ => ?_)
      clear hK K
      have hb := (Below.refl V50.heap.size V50).alloc (Nat.le_refl _) (.cells #[.int .i64 2, .int .i64 0, .string (str cA), .slice none 0 0, .int .i64 1, .int .i64 (3), .string (str []), .slice none 0 0] 24)
      have hc := heap_alloc_last V50 (.cells #[.int .i64 2, .int .i64 0, .string (str cA), .slice none 0 0, .int .i64 1, .int .i64 (3), .string (str []), .slice none 0 0] 24)
      have N_V51 := Lib.hid (Nat.ne_of_gt (Array.getElem?_eq_some_iff.1 Z_V50.out).1)
      obtain ⟨V51, hV⟩ : ∃ V, V50.alloc (.cells #[.int .i64 2, .int .i64 0, .string (str cA), .slice none 0 0, .int .i64 1, .int .i64 (3), .string (str []), .slice none 0 0] 24) = V := ⟨_, rfl⟩
      rw [hV] at hb hc ⊢
      have HBV51 := Lib.hid (bel_call HBV50.out hb)
      have E41_V51 := Lib.hid (E41_V50.out.next hb)
      have Z_V51 := Lib.hid ((hb.block _ (Array.getElem?_eq_some_iff.1 Z_V50.out).1).trans Z_V50.out)
      have C_V51 := Lib.hid hc
      clear hV hb hc
      refine wpAnyH_ready (rs := [9]) (by kernel_rfl) (by simp) ?_
      refine AllReadyH.cons rfl (fun K hK => ?_) AllReadyH.nil
      go_simp
      refine (xo_any _ 7 _ _ _).mono ?_
      rintro e V52 ⟨he, hb⟩
      subst he
      go_wp2_with fail
      refine hK.out _ _ (bel_call HBV51.out hb) (fun _ => ?_)
      clear hK K
      have E45_V52 := Lib.hid (show KEx V52 (V1.heap.size) (two 7 (vE cA) (nE (3))) (.slice (some ⟨V50.heap.size, 0, none⟩) 2 2) from KEx.two (x := (vE cA)) (y := (nE (3))) C_V51.out (N_V51.out) (KEx.leaf _ _ _ _ _) (KEx.leaf _ _ _ _ _) hb 7)
      have HBV52 := Lib.hid (bel_call HBV51.out hb)
      have E41_V52 := Lib.hid (E41_V51.out.next hb)
      have Z_V52 := Lib.hid ((hb.block _ (Array.getElem?_eq_some_iff.1 Z_V51.out).1).trans Z_V51.out)
      clear hb
      refine wpAnyH_ready (rs := [10]) (by kernel_rfl) (by simp) ?_
      refine AllReadyH.cons rfl (fun K hK => ?_) AllReadyH.nil
      go_simp
      refine hK.out _ _ (bel_alloc HBV52.out) (fun _ => ?_)
      clear hK K
      have hb := (Below.refl V52.heap.size V52).alloc (Nat.le_refl _) (.cells #[.int .i64 9, .int .i64 0, .string (str []), .slice (some ⟨V47.heap.size, 0, none⟩) 1 1, .int .i64 7, .int .i64 0, .string (str []), .slice (some ⟨V50.heap.size, 0, none⟩) 2 2] 24)
      have hc := heap_alloc_last V52 (.cells #[.int .i64 9, .int .i64 0, .string (str []), .slice (some ⟨V47.heap.size, 0, none⟩) 1 1, .int .i64 7, .int .i64 0, .string (str []), .slice (some ⟨V50.heap.size, 0, none⟩) 2 2] 24)
      have N_V53 := Lib.hid (Nat.ne_of_gt (Array.getElem?_eq_some_iff.1 Z_V52.out).1)
      obtain ⟨V53, hV⟩ : ∃ V, V52.alloc (.cells #[.int .i64 9, .int .i64 0, .string (str []), .slice (some ⟨V47.heap.size, 0, none⟩) 1 1, .int .i64 7, .int .i64 0, .string (str []), .slice (some ⟨V50.heap.size, 0, none⟩) 2 2] 24) = V := ⟨_, rfl⟩
      rw [hV] at hb hc ⊢
      have HBV53 := Lib.hid (bel_call HBV52.out hb)
      have E41_V53 := Lib.hid (E41_V52.out.next hb)
      have E45_V53 := Lib.hid (E45_V52.out.next hb)
      have Z_V53 := Lib.hid ((hb.block _ (Array.getElem?_eq_some_iff.1 Z_V52.out).1).trans Z_V52.out)
      have C_V53 := Lib.hid hc
      clear hV hb hc
      refine wpAnyH_ready (rs := [11]) (by kernel_rfl) (by simp) ?_
      refine AllReadyH.cons rfl (fun K hK => ?_) AllReadyH.nil
      go_simp
      refine (xo_any _ 11 _ _ _).mono ?_
      rintro e V54 ⟨he, hb⟩
      subst he
      go_wp2_with fail
      refine hK.out _ _ (bel_call HBV53.out hb) (fun _ => ?_)
      clear hK K
      have E47_V54 := Lib.hid (show KEx V54 (V1.heap.size) (two 11 (one 9 (two 6 (vE aA) (vE bA))) (two 7 (vE cA) (nE (3)))) (.slice (some ⟨V52.heap.size, 0, none⟩) 2 2) from KEx.two (x := (one 9 (two 6 (vE aA) (vE bA)))) (y := (two 7 (vE cA) (nE (3)))) C_V53.out (N_V53.out) E41_V53.out E45_V53.out hb 11)
      have HBV54 := Lib.hid (bel_call HBV53.out hb)
      have Z_V54 := Lib.hid ((hb.block _ (Array.getElem?_eq_some_iff.1 Z_V53.out).1).trans Z_V53.out)
      clear hb
      refine wpAnyH_ready (rs := [13]) (by kernel_rfl) (by simp) ?_
      refine AllReadyH.cons rfl (fun K hK => ?_) AllReadyH.nil
      obtain ⟨⟨z0, z1, z2, z3⟩, y0, y1, y2, y3⟩ := zero_cells Z_V54.out
      go_simp
      have hfin := VarE.put (x := two 11 (one 9 (two 6 (vE aA) (vE bA))) (two 7 (vE cA) (nE (3)))) (sv := .slice (some ⟨V52.heap.size, 0, none⟩) 2 2) Z_V54.out E47_V54.out
      have hbe := HBV54.out.setRow HGE.out #[.int .i64 11, .int .i64 0, .string (str []), .slice (some ⟨V52.heap.size, 0, none⟩) 2 2]
      rw [set4_row Z_V54.out rfl]
      refine hK.out _ _ hbe (fun _ => ?_)
      clear hK K
      refine wpAnyH_done (by kernel_rfl) ?_ _
      go_wp2_with fail
      go_meet
      exact ⟨_, _, rfl, hfin, hbe⟩
    refine AllReadyH.cons rfl (fun K hK => ?_) AllReadyH.nil
    go_simp
    refine hK.out _ _ (bel_alloc HBV0.out) (fun _ => ?_)
    clear hK K
    have hb := (Below.refl V0.heap.size V0).alloc (Nat.le_refl _) (.cells #[.int .i64 0, .int .i64 0, .string ⟨#[]⟩, .slice none 0 0] 24)
    have hc := heap_alloc_last V0 (.cells #[.int .i64 0, .int .i64 0, .string ⟨#[]⟩, .slice none 0 0] 24)
    have hge := HBV0.out.size
    obtain ⟨V55, hV⟩ : ∃ V, V0.alloc (.cells #[.int .i64 0, .int .i64 0, .string ⟨#[]⟩, .slice none 0 0] 24) = V := ⟨_, rfl⟩
    rw [hV] at hb hc ⊢
    have HBV55 := Lib.hid (bel_call HBV0.out hb)
    have Z_V55 := Lib.hid hc
    have HGE := Lib.hid hge
    clear hV hb hc hge 
    refine wpAnyH_ready (rs := [2]) (by kernel_rfl) (by simp) ?_
    refine AllReadyH.cons rfl (fun K hK => ?_) AllReadyH.nil
    go_simp
    refine hK.out _ _ (bel_alloc HBV55.out) (fun _ => ?_)
    clear hK K
    have hb := (Below.refl V55.heap.size V55).alloc (Nat.le_refl _) (.cells #[.int .i64 2, .int .i64 0, .string (str aA), .slice none 0 0, .int .i64 2, .int .i64 0, .string (str bA), .slice none 0 0] 24)
    have hc := heap_alloc_last V55 (.cells #[.int .i64 2, .int .i64 0, .string (str aA), .slice none 0 0, .int .i64 2, .int .i64 0, .string (str bA), .slice none 0 0] 24)
    have N_V56 := Lib.hid (Nat.ne_of_gt (Array.getElem?_eq_some_iff.1 Z_V55.out).1)
    obtain ⟨V56, hV⟩ : ∃ V, V55.alloc (.cells #[.int .i64 2, .int .i64 0, .string (str aA), .slice none 0 0, .int .i64 2, .int .i64 0, .string (str bA), .slice none 0 0] 24) = V := ⟨_, rfl⟩
    rw [hV] at hb hc ⊢
    have HBV56 := Lib.hid (bel_call HBV55.out hb)
    have Z_V56 := Lib.hid ((hb.block _ (Array.getElem?_eq_some_iff.1 Z_V55.out).1).trans Z_V55.out)
    have C_V56 := Lib.hid hc
    clear hV hb hc
    refine wpAnyH_ready (rs := [3]) (by kernel_rfl) (by simp) ?_
    refine AllReadyH.cons rfl (fun K hK => ?_) AllReadyH.nil
    go_simp
    refine (xo_any _ 6 _ _ _).mono ?_
    rintro e V57 ⟨he, hb⟩
    subst he
    go_wp2_with fail
    refine hK.out _ _ (bel_call HBV56.out hb) (fun _ => ?_)
    clear hK K
    have E39_V57 := Lib.hid (show KEx V57 (V0.heap.size) (two 6 (vE aA) (vE bA)) (.slice (some ⟨V55.heap.size, 0, none⟩) 2 2) from KEx.two (x := (vE aA)) (y := (vE bA)) C_V56.out (N_V56.out) (KEx.leaf _ _ _ _ _) (KEx.leaf _ _ _ _ _) hb 6)
    have HBV57 := Lib.hid (bel_call HBV56.out hb)
    have Z_V57 := Lib.hid ((hb.block _ (Array.getElem?_eq_some_iff.1 Z_V56.out).1).trans Z_V56.out)
    clear hb
    refine wpAnyH_ready (rs := [4]) (by kernel_rfl) (by simp) ?_
    refine AllReadyH.cons rfl (fun K hK => ?_) AllReadyH.nil
    go_simp
    refine hK.out _ _ (bel_alloc HBV57.out) (fun _ => ?_)
    clear hK K
    have hb := (Below.refl V57.heap.size V57).alloc (Nat.le_refl _) (.cells #[.int .i64 6, .int .i64 0, .string (str []), .slice (some ⟨V55.heap.size, 0, none⟩) 2 2] 24)
    have hc := heap_alloc_last V57 (.cells #[.int .i64 6, .int .i64 0, .string (str []), .slice (some ⟨V55.heap.size, 0, none⟩) 2 2] 24)
    have N_V58 := Lib.hid (Nat.ne_of_gt (Array.getElem?_eq_some_iff.1 Z_V57.out).1)
    obtain ⟨V58, hV⟩ : ∃ V, V57.alloc (.cells #[.int .i64 6, .int .i64 0, .string (str []), .slice (some ⟨V55.heap.size, 0, none⟩) 2 2] 24) = V := ⟨_, rfl⟩
    rw [hV] at hb hc ⊢
    have HBV58 := Lib.hid (bel_call HBV57.out hb)
    have E39_V58 := Lib.hid (E39_V57.out.next hb)
    have Z_V58 := Lib.hid ((hb.block _ (Array.getElem?_eq_some_iff.1 Z_V57.out).1).trans Z_V57.out)
    have C_V58 := Lib.hid hc
    clear hV hb hc
    refine wpAnyH_ready (rs := [5]) (by kernel_rfl) (by simp) ?_
    refine AllReadyH.cons rfl (fun K hK => ?_) AllReadyH.nil
    go_simp
    refine (xo_any _ 9 _ _ _).mono ?_
    rintro e V59 ⟨he, hb⟩
    subst he
    go_wp2_with fail
    refine hK.out _ _ (bel_call HBV58.out hb) (fun _ => ?_)
    clear hK K
    have E41_V59 := Lib.hid (show KEx V59 (V0.heap.size) (one 9 (two 6 (vE aA) (vE bA))) (.slice (some ⟨V57.heap.size, 0, none⟩) 1 1) from KEx.one (x := (two 6 (vE aA) (vE bA))) C_V58.out (N_V58.out) E39_V58.out hb 9)
    have HBV59 := Lib.hid (bel_call HBV58.out hb)
    have Z_V59 := Lib.hid ((hb.block _ (Array.getElem?_eq_some_iff.1 Z_V58.out).1).trans Z_V58.out)
    clear hb
    refine wpAnyH_ready (rs := [7]) (by kernel_rfl) (by simp) ?_
    refine AllReadyH.cons rfl (fun K hK => ?_) AllReadyH.nil
    go_simp
    refine (xn_any (3) _).mono ?_
    rintro e V60 ⟨he, hb⟩
    subst he
    go_wp2_with fail
    refine hK.out _ _ (bel_call HBV59.out hb) (fun _ => ?_)
    clear hK K
    have HBV60 := Lib.hid (bel_call HBV59.out hb)
    have E41_V60 := Lib.hid (E41_V59.out.next hb)
    have Z_V60 := Lib.hid ((hb.block _ (Array.getElem?_eq_some_iff.1 Z_V59.out).1).trans Z_V59.out)
    clear hb
    refine wpAnyH_ready (rs := [8]) (by kernel_rfl) (by simp) ?_
    refine AllReadyH.cons rfl (fun K hK => ?_) AllReadyH.nil
    go_simp
    refine hK.out _ _ (bel_alloc HBV60.out) (fun _ => ?_)
    clear hK K
    have hb := (Below.refl V60.heap.size V60).alloc (Nat.le_refl _) (.cells #[.int .i64 2, .int .i64 0, .string (str cA), .slice none 0 0, .int .i64 1, .int .i64 (3), .string (str []), .slice none 0 0] 24)
    have hc := heap_alloc_last V60 (.cells #[.int .i64 2, .int .i64 0, .string (str cA), .slice none 0 0, .int .i64 1, .int .i64 (3), .string (str []), .slice none 0 0] 24)
    have N_V61 := Lib.hid (Nat.ne_of_gt (Array.getElem?_eq_some_iff.1 Z_V60.out).1)
    obtain ⟨V61, hV⟩ : ∃ V, V60.alloc (.cells #[.int .i64 2, .int .i64 0, .string (str cA), .slice none 0 0, .int .i64 1, .int .i64 (3), .string (str []), .slice none 0 0] 24) = V := ⟨_, rfl⟩
    rw [hV] at hb hc ⊢
    have HBV61 := Lib.hid (bel_call HBV60.out hb)
    have E41_V61 := Lib.hid (E41_V60.out.next hb)
    have Z_V61 := Lib.hid ((hb.block _ (Array.getElem?_eq_some_iff.1 Z_V60.out).1).trans Z_V60.out)
    have C_V61 := Lib.hid hc
    clear hV hb hc
    refine wpAnyH_ready (rs := [9]) (by kernel_rfl) (by simp) ?_
    refine AllReadyH.cons rfl (fun K hK => ?_) AllReadyH.nil
    go_simp
    refine (xo_any _ 7 _ _ _).mono ?_
    rintro e V62 ⟨he, hb⟩
    subst he
    go_wp2_with fail
    refine hK.out _ _ (bel_call HBV61.out hb) (fun _ => ?_)
    clear hK K
    have E45_V62 := Lib.hid (show KEx V62 (V0.heap.size) (two 7 (vE cA) (nE (3))) (.slice (some ⟨V60.heap.size, 0, none⟩) 2 2) from KEx.two (x := (vE cA)) (y := (nE (3))) C_V61.out (N_V61.out) (KEx.leaf _ _ _ _ _) (KEx.leaf _ _ _ _ _) hb 7)
    have HBV62 := Lib.hid (bel_call HBV61.out hb)
    have E41_V62 := Lib.hid (E41_V61.out.next hb)
    have Z_V62 := Lib.hid ((hb.block _ (Array.getElem?_eq_some_iff.1 Z_V61.out).1).trans Z_V61.out)
    clear hb
    refine wpAnyH_ready (rs := [10]) (by kernel_rfl) (by simp) ?_
    refine AllReadyH.cons rfl (fun K hK => ?_) AllReadyH.nil
    go_simp
    refine hK.out _ _ (bel_alloc HBV62.out) (fun _ => ?_)
    clear hK K
    have hb := (Below.refl V62.heap.size V62).alloc (Nat.le_refl _) (.cells #[.int .i64 9, .int .i64 0, .string (str []), .slice (some ⟨V57.heap.size, 0, none⟩) 1 1, .int .i64 7, .int .i64 0, .string (str []), .slice (some ⟨V60.heap.size, 0, none⟩) 2 2] 24)
    have hc := heap_alloc_last V62 (.cells #[.int .i64 9, .int .i64 0, .string (str []), .slice (some ⟨V57.heap.size, 0, none⟩) 1 1, .int .i64 7, .int .i64 0, .string (str []), .slice (some ⟨V60.heap.size, 0, none⟩) 2 2] 24)
    have N_V63 := Lib.hid (Nat.ne_of_gt (Array.getElem?_eq_some_iff.1 Z_V62.out).1)
    obtain ⟨V63, hV⟩ : ∃ V, V62.alloc (.cells #[.int .i64 9, .int .i64 0, .string (str []), .slice (some ⟨V57.heap.size, 0, none⟩) 1 1, .int .i64 7, .int .i64 0, .string (str []), .slice (some ⟨V60.heap.size, 0, none⟩) 2 2] 24) = V := ⟨_, rfl⟩
    rw [hV] at hb hc ⊢
    have HBV63 := Lib.hid (bel_call HBV62.out hb)
    have E41_V63 := Lib.hid (E41_V62.out.next hb)
    have E45_V63 := Lib.hid (E45_V62.out.next hb)
    have Z_V63 := Lib.hid ((hb.block _ (Array.getElem?_eq_some_iff.1 Z_V62.out).1).trans Z_V62.out)
    have C_V63 := Lib.hid hc
    clear hV hb hc
    refine wpAnyH_ready (rs := [11]) (by kernel_rfl) (by simp) ?_
    refine AllReadyH.cons rfl (fun K hK => ?_) AllReadyH.nil
    go_simp
    refine (xo_any _ 11 _ _ _).mono ?_
    rintro e V64 ⟨he, hb⟩
    subst he
    go_wp2_with fail
    refine hK.out _ _ (bel_call HBV63.out hb) (fun _ => ?_)
    clear hK K
    have E47_V64 := Lib.hid (show KEx V64 (V0.heap.size) (two 11 (one 9 (two 6 (vE aA) (vE bA))) (two 7 (vE cA) (nE (3)))) (.slice (some ⟨V62.heap.size, 0, none⟩) 2 2) from KEx.two (x := (one 9 (two 6 (vE aA) (vE bA)))) (y := (two 7 (vE cA) (nE (3)))) C_V63.out (N_V63.out) E41_V63.out E45_V63.out hb 11)
    have HBV64 := Lib.hid (bel_call HBV63.out hb)
    have Z_V64 := Lib.hid ((hb.block _ (Array.getElem?_eq_some_iff.1 Z_V63.out).1).trans Z_V63.out)
    clear hb
    refine wpAnyH_ready (rs := [13]) (by kernel_rfl) (by simp) ?_
    refine AllReadyH.cons rfl (fun K hK => ?_) AllReadyH.nil
    obtain ⟨⟨z0, z1, z2, z3⟩, y0, y1, y2, y3⟩ := zero_cells Z_V64.out
    go_simp
    have hfin := VarE.put (x := two 11 (one 9 (two 6 (vE aA) (vE bA))) (two 7 (vE cA) (nE (3)))) (sv := .slice (some ⟨V62.heap.size, 0, none⟩) 2 2) Z_V64.out E47_V64.out
    have hbe := HBV64.out.setRow HGE.out #[.int .i64 11, .int .i64 0, .string (str []), .slice (some ⟨V62.heap.size, 0, none⟩) 2 2]
    rw [set4_row Z_V64.out rfl]
    refine hK.out _ _ hbe (fun _ => ?_)
    clear hK K
    refine wpAnyH_done (by kernel_rfl) ?_ _
    go_wp2_with fail
    go_meet
    exact ⟨_, _, rfl, hfin, hbe⟩
  case rest =>
    obtain ⟨gx, sx, rfl, hX, hbc⟩ := hcut
    have HX9 := Lib.hid hX
    have H9 := Lib.hid (H8.out.next hbc)
    have HRL9 := Lib.hid (HRL8.out.next hbc)
    clear hX hbc H8 HRL8
    go_upto_region 6 with fail
    obtain ⟨W9, hW9⟩ : ∃ W, wc = W := ⟨_, rfl⟩
    subst hW9
    go_cut [14] from 36 (fun v wd => ∃ (gy : Nat) (sy : Value), v = .pointer (some ⟨gy, 0, none⟩) ∧ VarE wd gy yA sy ∧ Below wc.heap.size wc wd)
    case first =>
      have CA := Lib.hid (fun (V : World) (h : Below wc.heap.size wc V) => (H9.out.next h).1.leafC)
      have CB := Lib.hid (fun (V : World) (h : Below wc.heap.size wc V) => (H9.out.next h).2.1.leafC)
      have CC := Lib.hid (fun (V : World) (h : Below wc.heap.size wc V) => leaf2 (H9.out.next h).2.2.1)
      refine wp_region_held_drew (S := fun V => Below wc.heap.size wc V) (by kernel_rfl) (Below.refl _ _).drew (fun hS => ?_)
      refine wpAnyH_take (i := 0) (v := ?_) rfl (by kernel_rfl) (by kernel_rfl) (by kernel_rfl) (fun _ _ _ h => h) (Or.inl ⟨by rfl, ?_⟩) hS ?_
      rotate_left
      · intro V hSw; obtain ⟨q0, q1, q2, q3⟩ := CA.out V hSw; go_simp; with_reducible rfl
      try simp only [Act.put, List.setIfInBounds_toArray]
      refine wpAnyH_take (i := 4) (v := ?_) rfl (by kernel_rfl) (by kernel_rfl) (by kernel_rfl) (fun _ _ _ h => h) (Or.inl ⟨by rfl, ?_⟩) hS ?_
      rotate_left
      · intro V hSw; obtain ⟨q0, q1, q2, q3⟩ := CB.out V hSw; go_simp; with_reducible rfl
      try simp only [Act.put]
      refine wpAnyH_take (i := 5) (v := ?_) rfl (by kernel_rfl) (by kernel_rfl) (by kernel_rfl) (fun _ _ _ h => h) (Or.inl ⟨by rfl, ?_⟩) hS ?_
      rotate_left
      · intro V hSw; obtain ⟨q0, q1, q2, q3⟩ := CC.out V hSw; go_simp; with_reducible rfl
      try simp only [Act.put]
      obtain ⟨U0, hV0⟩ : ∃ V, World.drew wc = V := ⟨_, rfl⟩
      rw [hV0] at hS ⊢
      have HBU0 := Lib.hid hS
      clear hS hV0
      refine wpAnyH_ready (rs := [1, 13]) (by kernel_rfl) (by simp) ?_
      refine AllReadyH.cons rfl (fun K hK => ?_) ?_
      · skip
        go_simp
        refine (xn_any (1) _).mono ?_
        rintro e U1 ⟨he, hb⟩
        subst he
        go_wp2_with fail
        refine hK.out _ _ (bel_call HBU0.out hb) (fun _ => ?_)
        clear hK K
        have HBU1 := Lib.hid (bel_call HBU0.out hb)
        clear hb
        refine wpAnyH_ready (rs := [2, 13]) (by kernel_rfl) (by simp) ?_
        refine AllReadyH.cons rfl (fun K hK => ?_) ?_
        · skip
          go_simp
          refine hK.out _ _ (bel_alloc HBU1.out) (fun _ => ?_)
          clear hK K
          have hb := (Below.refl U1.heap.size U1).alloc (Nat.le_refl _) (.cells #[.int .i64 2, .int .i64 0, .string (str aA), .slice none 0 0, .int .i64 1, .int .i64 (1), .string (str []), .slice none 0 0] 24)
          have hc := heap_alloc_last U1 (.cells #[.int .i64 2, .int .i64 0, .string (str aA), .slice none 0 0, .int .i64 1, .int .i64 (1), .string (str []), .slice none 0 0] 24)
          obtain ⟨U2, hV⟩ : ∃ V, U1.alloc (.cells #[.int .i64 2, .int .i64 0, .string (str aA), .slice none 0 0, .int .i64 1, .int .i64 (1), .string (str []), .slice none 0 0] 24) = V := ⟨_, rfl⟩
          rw [hV] at hb hc ⊢
          have HBU2 := Lib.hid (bel_call HBU1.out hb)
          have C_U2 := Lib.hid hc
          clear hV hb hc
          refine wpAnyH_ready (rs := [3, 13]) (by kernel_rfl) (by simp) ?_
          refine AllReadyH.cons rfl (fun K hK => ?_) ?_
          · skip
            go_simp
            refine (xo_any _ 3 _ _ _).mono ?_
            rintro e U3 ⟨he, hb⟩
            subst he
            go_wp2_with fail
            refine hK.out _ _ (bel_call HBU2.out hb) (fun _ => ?_)
            clear hK K
            have E51_U3 := Lib.hid (show KE U3 (two 3 (vE aA) (nE (1))) (.slice (some ⟨U1.heap.size, 0, none⟩) 2 2) from KE.two (x := (vE aA)) (y := (nE (1))) C_U2.out (KE.leaf _ _ _ _) (KE.leaf _ _ _ _) hb 3)
            have HBU3 := Lib.hid (bel_call HBU2.out hb)
            clear hb
            refine wpAnyH_ready (rs := [6, 13]) (by kernel_rfl) (by simp) ?_
            refine AllReadyH.cons rfl (fun K hK => ?_) ?_
            · skip
              go_simp
              refine (xn_any (-2) _).mono ?_
              rintro e U4 ⟨he, hb⟩
              subst he
              go_wp2_with fail
              refine hK.out _ _ (bel_call HBU3.out hb) (fun _ => ?_)
              clear hK K
              have HBU4 := Lib.hid (bel_call HBU3.out hb)
              have E51_U4 := Lib.hid (E51_U3.out.next hb)
              clear hb
              refine wpAnyH_ready (rs := [7, 13]) (by kernel_rfl) (by simp) ?_
              refine AllReadyH.cons rfl (fun K hK => ?_) ?_
              · skip
                go_simp
                refine hK.out _ _ (bel_alloc HBU4.out) (fun _ => ?_)
                clear hK K
                have hb := (Below.refl U4.heap.size U4).alloc (Nat.le_refl _) (.cells #[.int .i64 2, .int .i64 0, .string (str cA), .slice none 0 0, .int .i64 1, .int .i64 (-2), .string (str []), .slice none 0 0] 24)
                have hc := heap_alloc_last U4 (.cells #[.int .i64 2, .int .i64 0, .string (str cA), .slice none 0 0, .int .i64 1, .int .i64 (-2), .string (str []), .slice none 0 0] 24)
                obtain ⟨U5, hV⟩ : ∃ V, U4.alloc (.cells #[.int .i64 2, .int .i64 0, .string (str cA), .slice none 0 0, .int .i64 1, .int .i64 (-2), .string (str []), .slice none 0 0] 24) = V := ⟨_, rfl⟩
                rw [hV] at hb hc ⊢
                have HBU5 := Lib.hid (bel_call HBU4.out hb)
                have E51_U5 := Lib.hid (E51_U4.out.next hb)
                have C_U5 := Lib.hid hc
                clear hV hb hc
                refine wpAnyH_ready (rs := [8, 13]) (by kernel_rfl) (by simp) ?_
                refine AllReadyH.cons rfl (fun K hK => ?_) ?_
                · skip
                  go_simp
                  refine (xo_any _ 4 _ _ _).mono ?_
                  rintro e U6 ⟨he, hb⟩
                  subst he
                  go_wp2_with fail
                  refine hK.out _ _ (bel_call HBU5.out hb) (fun _ => ?_)
                  clear hK K
                  have E56_U6 := Lib.hid (show KE U6 (two 4 (vE cA) (nE (-2))) (.slice (some ⟨U4.heap.size, 0, none⟩) 2 2) from KE.two (x := (vE cA)) (y := (nE (-2))) C_U5.out (KE.leaf _ _ _ _) (KE.leaf _ _ _ _) hb 4)
                  have HBU6 := Lib.hid (bel_call HBU5.out hb)
                  have E51_U6 := Lib.hid (E51_U5.out.next hb)
                  clear hb
                  refine wpAnyH_ready (rs := [9, 13]) (by kernel_rfl) (by simp) ?_
                  refine AllReadyH.cons rfl (fun K hK => ?_) ?_
                  · skip
                    go_simp
                    refine hK.out _ _ (bel_alloc HBU6.out) (fun _ => ?_)
                    clear hK K
                    have hb := (Below.refl U6.heap.size U6).alloc (Nat.le_refl _) (.cells #[.int .i64 2, .int .i64 0, .string (str bA), .slice none 0 0, .int .i64 4, .int .i64 0, .string (str []), .slice (some ⟨U4.heap.size, 0, none⟩) 2 2] 24)
                    have hc := heap_alloc_last U6 (.cells #[.int .i64 2, .int .i64 0, .string (str bA), .slice none 0 0, .int .i64 4, .int .i64 0, .string (str []), .slice (some ⟨U4.heap.size, 0, none⟩) 2 2] 24)
                    obtain ⟨U7, hV⟩ : ∃ V, U6.alloc (.cells #[.int .i64 2, .int .i64 0, .string (str bA), .slice none 0 0, .int .i64 4, .int .i64 0, .string (str []), .slice (some ⟨U4.heap.size, 0, none⟩) 2 2] 24) = V := ⟨_, rfl⟩
                    rw [hV] at hb hc ⊢
                    have HBU7 := Lib.hid (bel_call HBU6.out hb)
                    have E51_U7 := Lib.hid (E51_U6.out.next hb)
                    have E56_U7 := Lib.hid (E56_U6.out.next hb)
                    have C_U7 := Lib.hid hc
                    clear hV hb hc
                    refine wpAnyH_ready (rs := [10, 13]) (by kernel_rfl) (by simp) ?_
                    refine AllReadyH.cons rfl (fun K hK => ?_) ?_
                    · skip
                      go_simp
                      refine (xo_any _ 4 _ _ _).mono ?_
                      rintro e U8 ⟨he, hb⟩
                      subst he
                      go_wp2_with fail
                      refine hK.out _ _ (bel_call HBU7.out hb) (fun _ => ?_)
                      clear hK K
                      have E58_U8 := Lib.hid (show KE U8 (two 4 (vE bA) (two 4 (vE cA) (nE (-2)))) (.slice (some ⟨U6.heap.size, 0, none⟩) 2 2) from KE.two (x := (vE bA)) (y := (two 4 (vE cA) (nE (-2)))) C_U7.out (KE.leaf _ _ _ _) E56_U7.out hb 4)
                      have HBU8 := Lib.hid (bel_call HBU7.out hb)
                      have E51_U8 := Lib.hid (E51_U7.out.next hb)
                      clear hb
                      refine wpAnyH_ready (rs := [11, 13]) (by kernel_rfl) (by simp) ?_
                      refine AllReadyH.cons rfl (fun K hK => ?_) ?_
                      · skip
                        go_simp
                        refine hK.out _ _ (bel_alloc HBU8.out) (fun _ => ?_)
                        clear hK K
                        have hb := (Below.refl U8.heap.size U8).alloc (Nat.le_refl _) (.cells #[.int .i64 3, .int .i64 0, .string (str []), .slice (some ⟨U1.heap.size, 0, none⟩) 2 2, .int .i64 4, .int .i64 0, .string (str []), .slice (some ⟨U6.heap.size, 0, none⟩) 2 2] 24)
                        have hc := heap_alloc_last U8 (.cells #[.int .i64 3, .int .i64 0, .string (str []), .slice (some ⟨U1.heap.size, 0, none⟩) 2 2, .int .i64 4, .int .i64 0, .string (str []), .slice (some ⟨U6.heap.size, 0, none⟩) 2 2] 24)
                        obtain ⟨U9, hV⟩ : ∃ V, U8.alloc (.cells #[.int .i64 3, .int .i64 0, .string (str []), .slice (some ⟨U1.heap.size, 0, none⟩) 2 2, .int .i64 4, .int .i64 0, .string (str []), .slice (some ⟨U6.heap.size, 0, none⟩) 2 2] 24) = V := ⟨_, rfl⟩
                        rw [hV] at hb hc ⊢
                        have HBU9 := Lib.hid (bel_call HBU8.out hb)
                        have E51_U9 := Lib.hid (E51_U8.out.next hb)
                        have E58_U9 := Lib.hid (E58_U8.out.next hb)
                        have C_U9 := Lib.hid hc
                        clear hV hb hc
                        refine wpAnyH_ready (rs := [12, 13]) (by kernel_rfl) (by simp) ?_
                        refine AllReadyH.cons rfl (fun K hK => ?_) ?_
                        · skip
                          go_simp
                          refine (xo_any _ 5 _ _ _).mono ?_
                          rintro e U10 ⟨he, hb⟩
                          subst he
                          go_wp2_with fail
                          refine hK.out _ _ (bel_call HBU9.out hb) (fun _ => ?_)
                          clear hK K
                          have E60_U10 := Lib.hid (show KE U10 (two 5 (two 3 (vE aA) (nE (1))) (two 4 (vE bA) (two 4 (vE cA) (nE (-2))))) (.slice (some ⟨U8.heap.size, 0, none⟩) 2 2) from KE.two (x := (two 3 (vE aA) (nE (1)))) (y := (two 4 (vE bA) (two 4 (vE cA) (nE (-2))))) C_U9.out E51_U9.out E58_U9.out hb 5)
                          have HBU10 := Lib.hid (bel_call HBU9.out hb)
                          clear hb
                          refine wpAnyH_ready (rs := [13]) (by kernel_rfl) (by simp) ?_
                          refine AllReadyH.cons rfl (fun K hK => ?_) AllReadyH.nil
                          go_simp
                          refine hK.out _ _ (bel_alloc HBU10.out) (fun _ => ?_)
                          clear hK K
                          have hb := (Below.refl U10.heap.size U10).alloc (Nat.le_refl _) (.cells #[.int .i64 0, .int .i64 0, .string ⟨#[]⟩, .slice none 0 0] 24)
                          have hc := heap_alloc_last U10 (.cells #[.int .i64 0, .int .i64 0, .string ⟨#[]⟩, .slice none 0 0] 24)
                          have hge := HBU10.out.size
                          have hx60 := E60_U10.out.apart (.cells #[.int .i64 0, .int .i64 0, .string ⟨#[]⟩, .slice none 0 0] 24)
                          obtain ⟨U11, hV⟩ : ∃ V, U10.alloc (.cells #[.int .i64 0, .int .i64 0, .string ⟨#[]⟩, .slice none 0 0] 24) = V := ⟨_, rfl⟩
                          rw [hV] at hb hc hx60 ⊢
                          have HBU11 := Lib.hid (bel_call HBU10.out hb)
                          have E60_U11 := Lib.hid hx60
                          have Z_U11 := Lib.hid hc
                          have HGE := Lib.hid hge
                          clear hV hb hc hge hx60
                          refine wpAnyH_ready (rs := [14]) (by kernel_rfl) (by simp) ?_
                          refine AllReadyH.cons rfl (fun K hK => ?_) AllReadyH.nil
                          obtain ⟨⟨z0, z1, z2, z3⟩, y0, y1, y2, y3⟩ := zero_cells Z_U11.out
                          go_simp
                          have hfin := VarE.put (x := two 5 (two 3 (vE aA) (nE (1))) (two 4 (vE bA) (two 4 (vE cA) (nE (-2))))) (sv := .slice (some ⟨U8.heap.size, 0, none⟩) 2 2) Z_U11.out E60_U11.out
                          have hbe := HBU11.out.setRow HGE.out #[.int .i64 5, .int .i64 0, .string (str []), .slice (some ⟨U8.heap.size, 0, none⟩) 2 2]
                          rw [set4_row Z_U11.out rfl]
                          refine hK.out _ _ hbe (fun _ => ?_)
                          clear hK K
                          refine wpAnyH_done (by kernel_rfl) ?_ _
                          go_wp2_with fail
                          go_meet
                          exact ⟨_, _, rfl, hfin, hbe⟩
                        refine AllReadyH.cons rfl (fun K hK => ?_) AllReadyH.nil
                        go_simp
                        refine hK.out _ _ (bel_alloc HBU9.out) (fun _ => ?_)
                        clear hK K
                        have hb := (Below.refl U9.heap.size U9).alloc (Nat.le_refl _) (.cells #[.int .i64 0, .int .i64 0, .string ⟨#[]⟩, .slice none 0 0] 24)
                        have hc := heap_alloc_last U9 (.cells #[.int .i64 0, .int .i64 0, .string ⟨#[]⟩, .slice none 0 0] 24)
                        have hge := HBU9.out.size
                        have hx51 := E51_U9.out.apart (.cells #[.int .i64 0, .int .i64 0, .string ⟨#[]⟩, .slice none 0 0] 24)
                        have hx58 := E58_U9.out.apart (.cells #[.int .i64 0, .int .i64 0, .string ⟨#[]⟩, .slice none 0 0] 24)
                        have hn := (Array.getElem?_eq_some_iff.1 C_U9.out).1
                        obtain ⟨U12, hV⟩ : ∃ V, U9.alloc (.cells #[.int .i64 0, .int .i64 0, .string ⟨#[]⟩, .slice none 0 0] 24) = V := ⟨_, rfl⟩
                        rw [hV] at hb hc hx51 hx58 ⊢
                        have HBU12 := Lib.hid (bel_call HBU9.out hb)
                        have E51_U12 := Lib.hid hx51
                        have E58_U12 := Lib.hid hx58
                        have Z_U12 := Lib.hid hc
                        have HGE := Lib.hid hge
                        have C_U12 := Lib.hid ((hb.block _ hn).trans C_U9.out)
                        have N_U12 := Lib.hid (Nat.ne_of_lt hn)
                        clear hn
                        clear hV hb hc hge hx51 hx58
                        refine wpAnyH_ready (rs := [12]) (by kernel_rfl) (by simp) ?_
                        refine AllReadyH.cons rfl (fun K hK => ?_) AllReadyH.nil
                        go_simp
                        refine (xo_any _ 5 _ _ _).mono ?_
                        rintro e U13 ⟨he, hb⟩
                        subst he
                        go_wp2_with fail
                        refine hK.out _ _ (bel_call HBU12.out hb) (fun _ => ?_)
                        clear hK K
                        have E60_U13 := Lib.hid (show KEx U13 (U9.heap.size) (two 5 (two 3 (vE aA) (nE (1))) (two 4 (vE bA) (two 4 (vE cA) (nE (-2))))) (.slice (some ⟨U8.heap.size, 0, none⟩) 2 2) from KEx.two (x := (two 3 (vE aA) (nE (1)))) (y := (two 4 (vE bA) (two 4 (vE cA) (nE (-2))))) C_U12.out (N_U12.out) E51_U12.out E58_U12.out hb 5)
                        have HBU13 := Lib.hid (bel_call HBU12.out hb)
                        have Z_U13 := Lib.hid ((hb.block _ (Array.getElem?_eq_some_iff.1 Z_U12.out).1).trans Z_U12.out)
                        clear hb
                        refine wpAnyH_ready (rs := [14]) (by kernel_rfl) (by simp) ?_
                        refine AllReadyH.cons rfl (fun K hK => ?_) AllReadyH.nil
                        obtain ⟨⟨z0, z1, z2, z3⟩, y0, y1, y2, y3⟩ := zero_cells Z_U13.out
                        go_simp
                        have hfin := VarE.put (x := two 5 (two 3 (vE aA) (nE (1))) (two 4 (vE bA) (two 4 (vE cA) (nE (-2))))) (sv := .slice (some ⟨U8.heap.size, 0, none⟩) 2 2) Z_U13.out E60_U13.out
                        have hbe := HBU13.out.setRow HGE.out #[.int .i64 5, .int .i64 0, .string (str []), .slice (some ⟨U8.heap.size, 0, none⟩) 2 2]
                        rw [set4_row Z_U13.out rfl]
                        refine hK.out _ _ hbe (fun _ => ?_)
                        clear hK K
                        refine wpAnyH_done (by kernel_rfl) ?_ _
                        go_wp2_with fail
                        go_meet
                        exact ⟨_, _, rfl, hfin, hbe⟩
                      refine AllReadyH.cons rfl (fun K hK => ?_) AllReadyH.nil
                      go_simp
                      refine hK.out _ _ (bel_alloc HBU8.out) (fun _ => ?_)
                      clear hK K
                      have hb := (Below.refl U8.heap.size U8).alloc (Nat.le_refl _) (.cells #[.int .i64 0, .int .i64 0, .string ⟨#[]⟩, .slice none 0 0] 24)
                      have hc := heap_alloc_last U8 (.cells #[.int .i64 0, .int .i64 0, .string ⟨#[]⟩, .slice none 0 0] 24)
                      have hge := HBU8.out.size
                      have hx51 := E51_U8.out.apart (.cells #[.int .i64 0, .int .i64 0, .string ⟨#[]⟩, .slice none 0 0] 24)
                      have hx58 := E58_U8.out.apart (.cells #[.int .i64 0, .int .i64 0, .string ⟨#[]⟩, .slice none 0 0] 24)
                      obtain ⟨U14, hV⟩ : ∃ V, U8.alloc (.cells #[.int .i64 0, .int .i64 0, .string ⟨#[]⟩, .slice none 0 0] 24) = V := ⟨_, rfl⟩
                      rw [hV] at hb hc hx51 hx58 ⊢
                      have HBU14 := Lib.hid (bel_call HBU8.out hb)
                      have E51_U14 := Lib.hid hx51
                      have E58_U14 := Lib.hid hx58
                      have Z_U14 := Lib.hid hc
                      have HGE := Lib.hid hge
                      clear hV hb hc hge hx51 hx58
                      refine wpAnyH_ready (rs := [11]) (by kernel_rfl) (by simp) ?_
                      refine AllReadyH.cons rfl (fun K hK => ?_) AllReadyH.nil
                      go_simp
                      refine hK.out _ _ (bel_alloc HBU14.out) (fun _ => ?_)
                      clear hK K
                      have hb := (Below.refl U14.heap.size U14).alloc (Nat.le_refl _) (.cells #[.int .i64 3, .int .i64 0, .string (str []), .slice (some ⟨U1.heap.size, 0, none⟩) 2 2, .int .i64 4, .int .i64 0, .string (str []), .slice (some ⟨U6.heap.size, 0, none⟩) 2 2] 24)
                      have hc := heap_alloc_last U14 (.cells #[.int .i64 3, .int .i64 0, .string (str []), .slice (some ⟨U1.heap.size, 0, none⟩) 2 2, .int .i64 4, .int .i64 0, .string (str []), .slice (some ⟨U6.heap.size, 0, none⟩) 2 2] 24)
                      have N_U15 := Lib.hid (Nat.ne_of_gt (Array.getElem?_eq_some_iff.1 Z_U14.out).1)
                      obtain ⟨U15, hV⟩ : ∃ V, U14.alloc (.cells #[.int .i64 3, .int .i64 0, .string (str []), .slice (some ⟨U1.heap.size, 0, none⟩) 2 2, .int .i64 4, .int .i64 0, .string (str []), .slice (some ⟨U6.heap.size, 0, none⟩) 2 2] 24) = V := ⟨_, rfl⟩
                      rw [hV] at hb hc ⊢
                      have HBU15 := Lib.hid (bel_call HBU14.out hb)
                      have E51_U15 := Lib.hid (E51_U14.out.next hb)
                      have E58_U15 := Lib.hid (E58_U14.out.next hb)
                      have Z_U15 := Lib.hid ((hb.block _ (Array.getElem?_eq_some_iff.1 Z_U14.out).1).trans Z_U14.out)
                      have C_U15 := Lib.hid hc
                      clear hV hb hc
                      refine wpAnyH_ready (rs := [12]) (by kernel_rfl) (by simp) ?_
                      refine AllReadyH.cons rfl (fun K hK => ?_) AllReadyH.nil
                      go_simp
                      refine (xo_any _ 5 _ _ _).mono ?_
                      rintro e U16 ⟨he, hb⟩
                      subst he
                      go_wp2_with fail
                      refine hK.out _ _ (bel_call HBU15.out hb) (fun _ => ?_)
                      clear hK K
                      have E60_U16 := Lib.hid (show KEx U16 (U8.heap.size) (two 5 (two 3 (vE aA) (nE (1))) (two 4 (vE bA) (two 4 (vE cA) (nE (-2))))) (.slice (some ⟨U14.heap.size, 0, none⟩) 2 2) from KEx.two (x := (two 3 (vE aA) (nE (1)))) (y := (two 4 (vE bA) (two 4 (vE cA) (nE (-2))))) C_U15.out (N_U15.out) E51_U15.out E58_U15.out hb 5)
                      have HBU16 := Lib.hid (bel_call HBU15.out hb)
                      have Z_U16 := Lib.hid ((hb.block _ (Array.getElem?_eq_some_iff.1 Z_U15.out).1).trans Z_U15.out)
                      clear hb
                      refine wpAnyH_ready (rs := [14]) (by kernel_rfl) (by simp) ?_
                      refine AllReadyH.cons rfl (fun K hK => ?_) AllReadyH.nil
                      obtain ⟨⟨z0, z1, z2, z3⟩, y0, y1, y2, y3⟩ := zero_cells Z_U16.out
                      go_simp
                      have hfin := VarE.put (x := two 5 (two 3 (vE aA) (nE (1))) (two 4 (vE bA) (two 4 (vE cA) (nE (-2))))) (sv := .slice (some ⟨U14.heap.size, 0, none⟩) 2 2) Z_U16.out E60_U16.out
                      have hbe := HBU16.out.setRow HGE.out #[.int .i64 5, .int .i64 0, .string (str []), .slice (some ⟨U14.heap.size, 0, none⟩) 2 2]
                      rw [set4_row Z_U16.out rfl]
                      refine hK.out _ _ hbe (fun _ => ?_)
                      clear hK K
                      refine wpAnyH_done (by kernel_rfl) ?_ _
                      go_wp2_with fail
                      go_meet
                      exact ⟨_, _, rfl, hfin, hbe⟩
                    refine AllReadyH.cons rfl (fun K hK => ?_) AllReadyH.nil
                    go_simp
                    refine hK.out _ _ (bel_alloc HBU7.out) (fun _ => ?_)
                    clear hK K
                    have hb := (Below.refl U7.heap.size U7).alloc (Nat.le_refl _) (.cells #[.int .i64 0, .int .i64 0, .string ⟨#[]⟩, .slice none 0 0] 24)
                    have hc := heap_alloc_last U7 (.cells #[.int .i64 0, .int .i64 0, .string ⟨#[]⟩, .slice none 0 0] 24)
                    have hge := HBU7.out.size
                    have hx51 := E51_U7.out.apart (.cells #[.int .i64 0, .int .i64 0, .string ⟨#[]⟩, .slice none 0 0] 24)
                    have hx56 := E56_U7.out.apart (.cells #[.int .i64 0, .int .i64 0, .string ⟨#[]⟩, .slice none 0 0] 24)
                    have hn := (Array.getElem?_eq_some_iff.1 C_U7.out).1
                    obtain ⟨U17, hV⟩ : ∃ V, U7.alloc (.cells #[.int .i64 0, .int .i64 0, .string ⟨#[]⟩, .slice none 0 0] 24) = V := ⟨_, rfl⟩
                    rw [hV] at hb hc hx51 hx56 ⊢
                    have HBU17 := Lib.hid (bel_call HBU7.out hb)
                    have E51_U17 := Lib.hid hx51
                    have E56_U17 := Lib.hid hx56
                    have Z_U17 := Lib.hid hc
                    have HGE := Lib.hid hge
                    have C_U17 := Lib.hid ((hb.block _ hn).trans C_U7.out)
                    have N_U17 := Lib.hid (Nat.ne_of_lt hn)
                    clear hn
                    clear hV hb hc hge hx51 hx56
                    refine wpAnyH_ready (rs := [10]) (by kernel_rfl) (by simp) ?_
                    refine AllReadyH.cons rfl (fun K hK => ?_) AllReadyH.nil
                    go_simp
                    refine (xo_any _ 4 _ _ _).mono ?_
                    rintro e U18 ⟨he, hb⟩
                    subst he
                    go_wp2_with fail
                    refine hK.out _ _ (bel_call HBU17.out hb) (fun _ => ?_)
                    clear hK K
                    have E58_U18 := Lib.hid (show KEx U18 (U7.heap.size) (two 4 (vE bA) (two 4 (vE cA) (nE (-2)))) (.slice (some ⟨U6.heap.size, 0, none⟩) 2 2) from KEx.two (x := (vE bA)) (y := (two 4 (vE cA) (nE (-2)))) C_U17.out (N_U17.out) (KEx.leaf _ _ _ _ _) E56_U17.out hb 4)
                    have HBU18 := Lib.hid (bel_call HBU17.out hb)
                    have E51_U18 := Lib.hid (E51_U17.out.next hb)
                    have Z_U18 := Lib.hid ((hb.block _ (Array.getElem?_eq_some_iff.1 Z_U17.out).1).trans Z_U17.out)
                    clear hb
                    refine wpAnyH_ready (rs := [11]) (by kernel_rfl) (by simp) ?_
                    refine AllReadyH.cons rfl (fun K hK => ?_) AllReadyH.nil
                    go_simp
                    refine hK.out _ _ (bel_alloc HBU18.out) (fun _ => ?_)
                    clear hK K
                    have hb := (Below.refl U18.heap.size U18).alloc (Nat.le_refl _) (.cells #[.int .i64 3, .int .i64 0, .string (str []), .slice (some ⟨U1.heap.size, 0, none⟩) 2 2, .int .i64 4, .int .i64 0, .string (str []), .slice (some ⟨U6.heap.size, 0, none⟩) 2 2] 24)
                    have hc := heap_alloc_last U18 (.cells #[.int .i64 3, .int .i64 0, .string (str []), .slice (some ⟨U1.heap.size, 0, none⟩) 2 2, .int .i64 4, .int .i64 0, .string (str []), .slice (some ⟨U6.heap.size, 0, none⟩) 2 2] 24)
                    have N_U19 := Lib.hid (Nat.ne_of_gt (Array.getElem?_eq_some_iff.1 Z_U18.out).1)
                    obtain ⟨U19, hV⟩ : ∃ V, U18.alloc (.cells #[.int .i64 3, .int .i64 0, .string (str []), .slice (some ⟨U1.heap.size, 0, none⟩) 2 2, .int .i64 4, .int .i64 0, .string (str []), .slice (some ⟨U6.heap.size, 0, none⟩) 2 2] 24) = V := ⟨_, rfl⟩
                    rw [hV] at hb hc ⊢
                    have HBU19 := Lib.hid (bel_call HBU18.out hb)
                    have E51_U19 := Lib.hid (E51_U18.out.next hb)
                    have E58_U19 := Lib.hid (E58_U18.out.next hb)
                    have Z_U19 := Lib.hid ((hb.block _ (Array.getElem?_eq_some_iff.1 Z_U18.out).1).trans Z_U18.out)
                    have C_U19 := Lib.hid hc
                    clear hV hb hc
                    refine wpAnyH_ready (rs := [12]) (by kernel_rfl) (by simp) ?_
                    refine AllReadyH.cons rfl (fun K hK => ?_) AllReadyH.nil
                    go_simp
                    refine (xo_any _ 5 _ _ _).mono ?_
                    rintro e U20 ⟨he, hb⟩
                    subst he
                    go_wp2_with fail
                    refine hK.out _ _ (bel_call HBU19.out hb) (fun _ => ?_)
                    clear hK K
                    have E60_U20 := Lib.hid (show KEx U20 (U7.heap.size) (two 5 (two 3 (vE aA) (nE (1))) (two 4 (vE bA) (two 4 (vE cA) (nE (-2))))) (.slice (some ⟨U18.heap.size, 0, none⟩) 2 2) from KEx.two (x := (two 3 (vE aA) (nE (1)))) (y := (two 4 (vE bA) (two 4 (vE cA) (nE (-2))))) C_U19.out (N_U19.out) E51_U19.out E58_U19.out hb 5)
                    have HBU20 := Lib.hid (bel_call HBU19.out hb)
                    have Z_U20 := Lib.hid ((hb.block _ (Array.getElem?_eq_some_iff.1 Z_U19.out).1).trans Z_U19.out)
                    clear hb
                    refine wpAnyH_ready (rs := [14]) (by kernel_rfl) (by simp) ?_
                    refine AllReadyH.cons rfl (fun K hK => ?_) AllReadyH.nil
                    obtain ⟨⟨z0, z1, z2, z3⟩, y0, y1, y2, y3⟩ := zero_cells Z_U20.out
                    go_simp
                    have hfin := VarE.put (x := two 5 (two 3 (vE aA) (nE (1))) (two 4 (vE bA) (two 4 (vE cA) (nE (-2))))) (sv := .slice (some ⟨U18.heap.size, 0, none⟩) 2 2) Z_U20.out E60_U20.out
                    have hbe := HBU20.out.setRow HGE.out #[.int .i64 5, .int .i64 0, .string (str []), .slice (some ⟨U18.heap.size, 0, none⟩) 2 2]
                    rw [set4_row Z_U20.out rfl]
                    refine hK.out _ _ hbe (fun _ => ?_)
                    clear hK K
                    refine wpAnyH_done (by kernel_rfl) ?_ _
                    go_wp2_with fail
                    go_meet
                    exact ⟨_, _, rfl, hfin, hbe⟩
                  refine AllReadyH.cons rfl (fun K hK => ?_) AllReadyH.nil
                  go_simp
                  refine hK.out _ _ (bel_alloc HBU6.out) (fun _ => ?_)
                  clear hK K
                  have hb := (Below.refl U6.heap.size U6).alloc (Nat.le_refl _) (.cells #[.int .i64 0, .int .i64 0, .string ⟨#[]⟩, .slice none 0 0] 24)
                  have hc := heap_alloc_last U6 (.cells #[.int .i64 0, .int .i64 0, .string ⟨#[]⟩, .slice none 0 0] 24)
                  have hge := HBU6.out.size
                  have hx51 := E51_U6.out.apart (.cells #[.int .i64 0, .int .i64 0, .string ⟨#[]⟩, .slice none 0 0] 24)
                  have hx56 := E56_U6.out.apart (.cells #[.int .i64 0, .int .i64 0, .string ⟨#[]⟩, .slice none 0 0] 24)
                  obtain ⟨U21, hV⟩ : ∃ V, U6.alloc (.cells #[.int .i64 0, .int .i64 0, .string ⟨#[]⟩, .slice none 0 0] 24) = V := ⟨_, rfl⟩
                  rw [hV] at hb hc hx51 hx56 ⊢
                  have HBU21 := Lib.hid (bel_call HBU6.out hb)
                  have E51_U21 := Lib.hid hx51
                  have E56_U21 := Lib.hid hx56
                  have Z_U21 := Lib.hid hc
                  have HGE := Lib.hid hge
                  clear hV hb hc hge hx51 hx56
                  refine wpAnyH_ready (rs := [9]) (by kernel_rfl) (by simp) ?_
                  refine AllReadyH.cons rfl (fun K hK => ?_) AllReadyH.nil
                  go_simp
                  refine hK.out _ _ (bel_alloc HBU21.out) (fun _ => ?_)
                  clear hK K
                  have hb := (Below.refl U21.heap.size U21).alloc (Nat.le_refl _) (.cells #[.int .i64 2, .int .i64 0, .string (str bA), .slice none 0 0, .int .i64 4, .int .i64 0, .string (str []), .slice (some ⟨U4.heap.size, 0, none⟩) 2 2] 24)
                  have hc := heap_alloc_last U21 (.cells #[.int .i64 2, .int .i64 0, .string (str bA), .slice none 0 0, .int .i64 4, .int .i64 0, .string (str []), .slice (some ⟨U4.heap.size, 0, none⟩) 2 2] 24)
                  have N_U22 := Lib.hid (Nat.ne_of_gt (Array.getElem?_eq_some_iff.1 Z_U21.out).1)
                  obtain ⟨U22, hV⟩ : ∃ V, U21.alloc (.cells #[.int .i64 2, .int .i64 0, .string (str bA), .slice none 0 0, .int .i64 4, .int .i64 0, .string (str []), .slice (some ⟨U4.heap.size, 0, none⟩) 2 2] 24) = V := ⟨_, rfl⟩
                  rw [hV] at hb hc ⊢
                  have HBU22 := Lib.hid (bel_call HBU21.out hb)
                  have E51_U22 := Lib.hid (E51_U21.out.next hb)
                  have E56_U22 := Lib.hid (E56_U21.out.next hb)
                  have Z_U22 := Lib.hid ((hb.block _ (Array.getElem?_eq_some_iff.1 Z_U21.out).1).trans Z_U21.out)
                  have C_U22 := Lib.hid hc
                  clear hV hb hc
                  refine wpAnyH_ready (rs := [10]) (by kernel_rfl) (by simp) ?_
                  refine AllReadyH.cons rfl (fun K hK => ?_) AllReadyH.nil
                  go_simp
                  refine (xo_any _ 4 _ _ _).mono ?_
                  rintro e U23 ⟨he, hb⟩
                  subst he
                  go_wp2_with fail
                  refine hK.out _ _ (bel_call HBU22.out hb) (fun _ => ?_)
                  clear hK K
                  have E58_U23 := Lib.hid (show KEx U23 (U6.heap.size) (two 4 (vE bA) (two 4 (vE cA) (nE (-2)))) (.slice (some ⟨U21.heap.size, 0, none⟩) 2 2) from KEx.two (x := (vE bA)) (y := (two 4 (vE cA) (nE (-2)))) C_U22.out (N_U22.out) (KEx.leaf _ _ _ _ _) E56_U22.out hb 4)
                  have HBU23 := Lib.hid (bel_call HBU22.out hb)
                  have E51_U23 := Lib.hid (E51_U22.out.next hb)
                  have Z_U23 := Lib.hid ((hb.block _ (Array.getElem?_eq_some_iff.1 Z_U22.out).1).trans Z_U22.out)
                  clear hb
                  refine wpAnyH_ready (rs := [11]) (by kernel_rfl) (by simp) ?_
                  refine AllReadyH.cons rfl (fun K hK => ?_) AllReadyH.nil
                  go_simp
                  refine hK.out _ _ (bel_alloc HBU23.out) (fun _ => ?_)
                  clear hK K
                  have hb := (Below.refl U23.heap.size U23).alloc (Nat.le_refl _) (.cells #[.int .i64 3, .int .i64 0, .string (str []), .slice (some ⟨U1.heap.size, 0, none⟩) 2 2, .int .i64 4, .int .i64 0, .string (str []), .slice (some ⟨U21.heap.size, 0, none⟩) 2 2] 24)
                  have hc := heap_alloc_last U23 (.cells #[.int .i64 3, .int .i64 0, .string (str []), .slice (some ⟨U1.heap.size, 0, none⟩) 2 2, .int .i64 4, .int .i64 0, .string (str []), .slice (some ⟨U21.heap.size, 0, none⟩) 2 2] 24)
                  have N_U24 := Lib.hid (Nat.ne_of_gt (Array.getElem?_eq_some_iff.1 Z_U23.out).1)
                  obtain ⟨U24, hV⟩ : ∃ V, U23.alloc (.cells #[.int .i64 3, .int .i64 0, .string (str []), .slice (some ⟨U1.heap.size, 0, none⟩) 2 2, .int .i64 4, .int .i64 0, .string (str []), .slice (some ⟨U21.heap.size, 0, none⟩) 2 2] 24) = V := ⟨_, rfl⟩
                  rw [hV] at hb hc ⊢
                  have HBU24 := Lib.hid (bel_call HBU23.out hb)
                  have E51_U24 := Lib.hid (E51_U23.out.next hb)
                  have E58_U24 := Lib.hid (E58_U23.out.next hb)
                  have Z_U24 := Lib.hid ((hb.block _ (Array.getElem?_eq_some_iff.1 Z_U23.out).1).trans Z_U23.out)
                  have C_U24 := Lib.hid hc
                  clear hV hb hc
                  refine wpAnyH_ready (rs := [12]) (by kernel_rfl) (by simp) ?_
                  refine AllReadyH.cons rfl (fun K hK => ?_) AllReadyH.nil
                  go_simp
                  refine (xo_any _ 5 _ _ _).mono ?_
                  rintro e U25 ⟨he, hb⟩
                  subst he
                  go_wp2_with fail
                  refine hK.out _ _ (bel_call HBU24.out hb) (fun _ => ?_)
                  clear hK K
                  have E60_U25 := Lib.hid (show KEx U25 (U6.heap.size) (two 5 (two 3 (vE aA) (nE (1))) (two 4 (vE bA) (two 4 (vE cA) (nE (-2))))) (.slice (some ⟨U23.heap.size, 0, none⟩) 2 2) from KEx.two (x := (two 3 (vE aA) (nE (1)))) (y := (two 4 (vE bA) (two 4 (vE cA) (nE (-2))))) C_U24.out (N_U24.out) E51_U24.out E58_U24.out hb 5)
                  have HBU25 := Lib.hid (bel_call HBU24.out hb)
                  have Z_U25 := Lib.hid ((hb.block _ (Array.getElem?_eq_some_iff.1 Z_U24.out).1).trans Z_U24.out)
                  clear hb
                  refine wpAnyH_ready (rs := [14]) (by kernel_rfl) (by simp) ?_
                  refine AllReadyH.cons rfl (fun K hK => ?_) AllReadyH.nil
                  obtain ⟨⟨z0, z1, z2, z3⟩, y0, y1, y2, y3⟩ := zero_cells Z_U25.out
                  go_simp
                  have hfin := VarE.put (x := two 5 (two 3 (vE aA) (nE (1))) (two 4 (vE bA) (two 4 (vE cA) (nE (-2))))) (sv := .slice (some ⟨U23.heap.size, 0, none⟩) 2 2) Z_U25.out E60_U25.out
                  have hbe := HBU25.out.setRow HGE.out #[.int .i64 5, .int .i64 0, .string (str []), .slice (some ⟨U23.heap.size, 0, none⟩) 2 2]
                  rw [set4_row Z_U25.out rfl]
                  refine hK.out _ _ hbe (fun _ => ?_)
                  clear hK K
                  refine wpAnyH_done (by kernel_rfl) ?_ _
                  go_wp2_with fail
                  go_meet
                  exact ⟨_, _, rfl, hfin, hbe⟩
                refine AllReadyH.cons rfl (fun K hK => ?_) AllReadyH.nil
                go_simp
                refine hK.out _ _ (bel_alloc HBU5.out) (fun _ => ?_)
                clear hK K
                have hb := (Below.refl U5.heap.size U5).alloc (Nat.le_refl _) (.cells #[.int .i64 0, .int .i64 0, .string ⟨#[]⟩, .slice none 0 0] 24)
                have hc := heap_alloc_last U5 (.cells #[.int .i64 0, .int .i64 0, .string ⟨#[]⟩, .slice none 0 0] 24)
                have hge := HBU5.out.size
                have hx51 := E51_U5.out.apart (.cells #[.int .i64 0, .int .i64 0, .string ⟨#[]⟩, .slice none 0 0] 24)
                have hn := (Array.getElem?_eq_some_iff.1 C_U5.out).1
                obtain ⟨U26, hV⟩ : ∃ V, U5.alloc (.cells #[.int .i64 0, .int .i64 0, .string ⟨#[]⟩, .slice none 0 0] 24) = V := ⟨_, rfl⟩
                rw [hV] at hb hc hx51 ⊢
                have HBU26 := Lib.hid (bel_call HBU5.out hb)
                have E51_U26 := Lib.hid hx51
                have Z_U26 := Lib.hid hc
                have HGE := Lib.hid hge
                have C_U26 := Lib.hid ((hb.block _ hn).trans C_U5.out)
                have N_U26 := Lib.hid (Nat.ne_of_lt hn)
                clear hn
                clear hV hb hc hge hx51
                refine wpAnyH_ready (rs := [8]) (by kernel_rfl) (by simp) ?_
                refine AllReadyH.cons rfl (fun K hK => ?_) AllReadyH.nil
                go_simp
                refine (xo_any _ 4 _ _ _).mono ?_
                rintro e U27 ⟨he, hb⟩
                subst he
                go_wp2_with fail
                refine hK.out _ _ (bel_call HBU26.out hb) (fun _ => ?_)
                clear hK K
                have E56_U27 := Lib.hid (show KEx U27 (U5.heap.size) (two 4 (vE cA) (nE (-2))) (.slice (some ⟨U4.heap.size, 0, none⟩) 2 2) from KEx.two (x := (vE cA)) (y := (nE (-2))) C_U26.out (N_U26.out) (KEx.leaf _ _ _ _ _) (KEx.leaf _ _ _ _ _) hb 4)
                have HBU27 := Lib.hid (bel_call HBU26.out hb)
                have E51_U27 := Lib.hid (E51_U26.out.next hb)
                have Z_U27 := Lib.hid ((hb.block _ (Array.getElem?_eq_some_iff.1 Z_U26.out).1).trans Z_U26.out)
                clear hb
                refine wpAnyH_ready (rs := [9]) (by kernel_rfl) (by simp) ?_
                refine AllReadyH.cons rfl (fun K hK => ?_) AllReadyH.nil
                go_simp
                refine hK.out _ _ (bel_alloc HBU27.out) (fun _ => ?_)
                clear hK K
                have hb := (Below.refl U27.heap.size U27).alloc (Nat.le_refl _) (.cells #[.int .i64 2, .int .i64 0, .string (str bA), .slice none 0 0, .int .i64 4, .int .i64 0, .string (str []), .slice (some ⟨U4.heap.size, 0, none⟩) 2 2] 24)
                have hc := heap_alloc_last U27 (.cells #[.int .i64 2, .int .i64 0, .string (str bA), .slice none 0 0, .int .i64 4, .int .i64 0, .string (str []), .slice (some ⟨U4.heap.size, 0, none⟩) 2 2] 24)
                have N_U28 := Lib.hid (Nat.ne_of_gt (Array.getElem?_eq_some_iff.1 Z_U27.out).1)
                obtain ⟨U28, hV⟩ : ∃ V, U27.alloc (.cells #[.int .i64 2, .int .i64 0, .string (str bA), .slice none 0 0, .int .i64 4, .int .i64 0, .string (str []), .slice (some ⟨U4.heap.size, 0, none⟩) 2 2] 24) = V := ⟨_, rfl⟩
                rw [hV] at hb hc ⊢
                have HBU28 := Lib.hid (bel_call HBU27.out hb)
                have E51_U28 := Lib.hid (E51_U27.out.next hb)
                have E56_U28 := Lib.hid (E56_U27.out.next hb)
                have Z_U28 := Lib.hid ((hb.block _ (Array.getElem?_eq_some_iff.1 Z_U27.out).1).trans Z_U27.out)
                have C_U28 := Lib.hid hc
                clear hV hb hc
                refine wpAnyH_ready (rs := [10]) (by kernel_rfl) (by simp) ?_
                refine AllReadyH.cons rfl (fun K hK => ?_) AllReadyH.nil
                go_simp
                refine (xo_any _ 4 _ _ _).mono ?_
                rintro e U29 ⟨he, hb⟩
                subst he
                go_wp2_with fail
                refine hK.out _ _ (bel_call HBU28.out hb) (fun _ => ?_)
                clear hK K
                have E58_U29 := Lib.hid (show KEx U29 (U5.heap.size) (two 4 (vE bA) (two 4 (vE cA) (nE (-2)))) (.slice (some ⟨U27.heap.size, 0, none⟩) 2 2) from KEx.two (x := (vE bA)) (y := (two 4 (vE cA) (nE (-2)))) C_U28.out (N_U28.out) (KEx.leaf _ _ _ _ _) E56_U28.out hb 4)
                have HBU29 := Lib.hid (bel_call HBU28.out hb)
                have E51_U29 := Lib.hid (E51_U28.out.next hb)
                have Z_U29 := Lib.hid ((hb.block _ (Array.getElem?_eq_some_iff.1 Z_U28.out).1).trans Z_U28.out)
                clear hb
                refine wpAnyH_ready (rs := [11]) (by kernel_rfl) (by simp) ?_
                refine AllReadyH.cons rfl (fun K hK => ?_) AllReadyH.nil
                go_simp
                refine hK.out _ _ (bel_alloc HBU29.out) (fun _ => ?_)
                clear hK K
                have hb := (Below.refl U29.heap.size U29).alloc (Nat.le_refl _) (.cells #[.int .i64 3, .int .i64 0, .string (str []), .slice (some ⟨U1.heap.size, 0, none⟩) 2 2, .int .i64 4, .int .i64 0, .string (str []), .slice (some ⟨U27.heap.size, 0, none⟩) 2 2] 24)
                have hc := heap_alloc_last U29 (.cells #[.int .i64 3, .int .i64 0, .string (str []), .slice (some ⟨U1.heap.size, 0, none⟩) 2 2, .int .i64 4, .int .i64 0, .string (str []), .slice (some ⟨U27.heap.size, 0, none⟩) 2 2] 24)
                have N_U30 := Lib.hid (Nat.ne_of_gt (Array.getElem?_eq_some_iff.1 Z_U29.out).1)
                obtain ⟨U30, hV⟩ : ∃ V, U29.alloc (.cells #[.int .i64 3, .int .i64 0, .string (str []), .slice (some ⟨U1.heap.size, 0, none⟩) 2 2, .int .i64 4, .int .i64 0, .string (str []), .slice (some ⟨U27.heap.size, 0, none⟩) 2 2] 24) = V := ⟨_, rfl⟩
                rw [hV] at hb hc ⊢
                have HBU30 := Lib.hid (bel_call HBU29.out hb)
                have E51_U30 := Lib.hid (E51_U29.out.next hb)
                have E58_U30 := Lib.hid (E58_U29.out.next hb)
                have Z_U30 := Lib.hid ((hb.block _ (Array.getElem?_eq_some_iff.1 Z_U29.out).1).trans Z_U29.out)
                have C_U30 := Lib.hid hc
                clear hV hb hc
                refine wpAnyH_ready (rs := [12]) (by kernel_rfl) (by simp) ?_
                refine AllReadyH.cons rfl (fun K hK => ?_) AllReadyH.nil
                go_simp
                refine (xo_any _ 5 _ _ _).mono ?_
                rintro e U31 ⟨he, hb⟩
                subst he
                go_wp2_with fail
                refine hK.out _ _ (bel_call HBU30.out hb) (fun _ => ?_)
                clear hK K
                have E60_U31 := Lib.hid (show KEx U31 (U5.heap.size) (two 5 (two 3 (vE aA) (nE (1))) (two 4 (vE bA) (two 4 (vE cA) (nE (-2))))) (.slice (some ⟨U29.heap.size, 0, none⟩) 2 2) from KEx.two (x := (two 3 (vE aA) (nE (1)))) (y := (two 4 (vE bA) (two 4 (vE cA) (nE (-2))))) C_U30.out (N_U30.out) E51_U30.out E58_U30.out hb 5)
                have HBU31 := Lib.hid (bel_call HBU30.out hb)
                have Z_U31 := Lib.hid ((hb.block _ (Array.getElem?_eq_some_iff.1 Z_U30.out).1).trans Z_U30.out)
                clear hb
                refine wpAnyH_ready (rs := [14]) (by kernel_rfl) (by simp) ?_
                refine AllReadyH.cons rfl (fun K hK => ?_) AllReadyH.nil
                obtain ⟨⟨z0, z1, z2, z3⟩, y0, y1, y2, y3⟩ := zero_cells Z_U31.out
                go_simp
                have hfin := VarE.put (x := two 5 (two 3 (vE aA) (nE (1))) (two 4 (vE bA) (two 4 (vE cA) (nE (-2))))) (sv := .slice (some ⟨U29.heap.size, 0, none⟩) 2 2) Z_U31.out E60_U31.out
                have hbe := HBU31.out.setRow HGE.out #[.int .i64 5, .int .i64 0, .string (str []), .slice (some ⟨U29.heap.size, 0, none⟩) 2 2]
                rw [set4_row Z_U31.out rfl]
                refine hK.out _ _ hbe (fun _ => ?_)
                clear hK K
                refine wpAnyH_done (by kernel_rfl) ?_ _
                go_wp2_with fail
                go_meet
                exact ⟨_, _, rfl, hfin, hbe⟩
              refine AllReadyH.cons rfl (fun K hK => ?_) AllReadyH.nil
              go_simp
              refine hK.out _ _ (bel_alloc HBU4.out) (fun _ => ?_)
              clear hK K
              have hb := (Below.refl U4.heap.size U4).alloc (Nat.le_refl _) (.cells #[.int .i64 0, .int .i64 0, .string ⟨#[]⟩, .slice none 0 0] 24)
              have hc := heap_alloc_last U4 (.cells #[.int .i64 0, .int .i64 0, .string ⟨#[]⟩, .slice none 0 0] 24)
              have hge := HBU4.out.size
              have hx51 := E51_U4.out.apart (.cells #[.int .i64 0, .int .i64 0, .string ⟨#[]⟩, .slice none 0 0] 24)
              obtain ⟨U32, hV⟩ : ∃ V, U4.alloc (.cells #[.int .i64 0, .int .i64 0, .string ⟨#[]⟩, .slice none 0 0] 24) = V := ⟨_, rfl⟩
              rw [hV] at hb hc hx51 ⊢
              have HBU32 := Lib.hid (bel_call HBU4.out hb)
              have E51_U32 := Lib.hid hx51
              have Z_U32 := Lib.hid hc
              have HGE := Lib.hid hge
              clear hV hb hc hge hx51
              refine wpAnyH_ready (rs := [7]) (by kernel_rfl) (by simp) ?_
              refine AllReadyH.cons rfl (fun K hK => ?_) AllReadyH.nil
              go_simp
              refine hK.out _ _ (bel_alloc HBU32.out) (fun _ => ?_)
              clear hK K
              have hb := (Below.refl U32.heap.size U32).alloc (Nat.le_refl _) (.cells #[.int .i64 2, .int .i64 0, .string (str cA), .slice none 0 0, .int .i64 1, .int .i64 (-2), .string (str []), .slice none 0 0] 24)
              have hc := heap_alloc_last U32 (.cells #[.int .i64 2, .int .i64 0, .string (str cA), .slice none 0 0, .int .i64 1, .int .i64 (-2), .string (str []), .slice none 0 0] 24)
              have N_U33 := Lib.hid (Nat.ne_of_gt (Array.getElem?_eq_some_iff.1 Z_U32.out).1)
              obtain ⟨U33, hV⟩ : ∃ V, U32.alloc (.cells #[.int .i64 2, .int .i64 0, .string (str cA), .slice none 0 0, .int .i64 1, .int .i64 (-2), .string (str []), .slice none 0 0] 24) = V := ⟨_, rfl⟩
              rw [hV] at hb hc ⊢
              have HBU33 := Lib.hid (bel_call HBU32.out hb)
              have E51_U33 := Lib.hid (E51_U32.out.next hb)
              have Z_U33 := Lib.hid ((hb.block _ (Array.getElem?_eq_some_iff.1 Z_U32.out).1).trans Z_U32.out)
              have C_U33 := Lib.hid hc
              clear hV hb hc
              refine wpAnyH_ready (rs := [8]) (by kernel_rfl) (by simp) ?_
              refine AllReadyH.cons rfl (fun K hK => ?_) AllReadyH.nil
              go_simp
              refine (xo_any _ 4 _ _ _).mono ?_
              rintro e U34 ⟨he, hb⟩
              subst he
              go_wp2_with fail
              refine hK.out _ _ (bel_call HBU33.out hb) (fun _ => ?_)
              clear hK K
              have E56_U34 := Lib.hid (show KEx U34 (U4.heap.size) (two 4 (vE cA) (nE (-2))) (.slice (some ⟨U32.heap.size, 0, none⟩) 2 2) from KEx.two (x := (vE cA)) (y := (nE (-2))) C_U33.out (N_U33.out) (KEx.leaf _ _ _ _ _) (KEx.leaf _ _ _ _ _) hb 4)
              have HBU34 := Lib.hid (bel_call HBU33.out hb)
              have E51_U34 := Lib.hid (E51_U33.out.next hb)
              have Z_U34 := Lib.hid ((hb.block _ (Array.getElem?_eq_some_iff.1 Z_U33.out).1).trans Z_U33.out)
              clear hb
              refine wpAnyH_ready (rs := [9]) (by kernel_rfl) (by simp) ?_
              refine AllReadyH.cons rfl (fun K hK => ?_) AllReadyH.nil
              go_simp
              refine hK.out _ _ (bel_alloc HBU34.out) (fun _ => ?_)
              clear hK K
              have hb := (Below.refl U34.heap.size U34).alloc (Nat.le_refl _) (.cells #[.int .i64 2, .int .i64 0, .string (str bA), .slice none 0 0, .int .i64 4, .int .i64 0, .string (str []), .slice (some ⟨U32.heap.size, 0, none⟩) 2 2] 24)
              have hc := heap_alloc_last U34 (.cells #[.int .i64 2, .int .i64 0, .string (str bA), .slice none 0 0, .int .i64 4, .int .i64 0, .string (str []), .slice (some ⟨U32.heap.size, 0, none⟩) 2 2] 24)
              have N_U35 := Lib.hid (Nat.ne_of_gt (Array.getElem?_eq_some_iff.1 Z_U34.out).1)
              obtain ⟨U35, hV⟩ : ∃ V, U34.alloc (.cells #[.int .i64 2, .int .i64 0, .string (str bA), .slice none 0 0, .int .i64 4, .int .i64 0, .string (str []), .slice (some ⟨U32.heap.size, 0, none⟩) 2 2] 24) = V := ⟨_, rfl⟩
              rw [hV] at hb hc ⊢
              have HBU35 := Lib.hid (bel_call HBU34.out hb)
              have E51_U35 := Lib.hid (E51_U34.out.next hb)
              have E56_U35 := Lib.hid (E56_U34.out.next hb)
              have Z_U35 := Lib.hid ((hb.block _ (Array.getElem?_eq_some_iff.1 Z_U34.out).1).trans Z_U34.out)
              have C_U35 := Lib.hid hc
              clear hV hb hc
              refine wpAnyH_ready (rs := [10]) (by kernel_rfl) (by simp) ?_
              refine AllReadyH.cons rfl (fun K hK => ?_) AllReadyH.nil
              go_simp
              refine (xo_any _ 4 _ _ _).mono ?_
              rintro e U36 ⟨he, hb⟩
              subst he
              go_wp2_with fail
              refine hK.out _ _ (bel_call HBU35.out hb) (fun _ => ?_)
              clear hK K
              have E58_U36 := Lib.hid (show KEx U36 (U4.heap.size) (two 4 (vE bA) (two 4 (vE cA) (nE (-2)))) (.slice (some ⟨U34.heap.size, 0, none⟩) 2 2) from KEx.two (x := (vE bA)) (y := (two 4 (vE cA) (nE (-2)))) C_U35.out (N_U35.out) (KEx.leaf _ _ _ _ _) E56_U35.out hb 4)
              have HBU36 := Lib.hid (bel_call HBU35.out hb)
              have E51_U36 := Lib.hid (E51_U35.out.next hb)
              have Z_U36 := Lib.hid ((hb.block _ (Array.getElem?_eq_some_iff.1 Z_U35.out).1).trans Z_U35.out)
              clear hb
              refine wpAnyH_ready (rs := [11]) (by kernel_rfl) (by simp) ?_
              refine AllReadyH.cons rfl (fun K hK => ?_) AllReadyH.nil
              go_simp
              refine hK.out _ _ (bel_alloc HBU36.out) (fun _ => ?_)
              clear hK K
              have hb := (Below.refl U36.heap.size U36).alloc (Nat.le_refl _) (.cells #[.int .i64 3, .int .i64 0, .string (str []), .slice (some ⟨U1.heap.size, 0, none⟩) 2 2, .int .i64 4, .int .i64 0, .string (str []), .slice (some ⟨U34.heap.size, 0, none⟩) 2 2] 24)
              have hc := heap_alloc_last U36 (.cells #[.int .i64 3, .int .i64 0, .string (str []), .slice (some ⟨U1.heap.size, 0, none⟩) 2 2, .int .i64 4, .int .i64 0, .string (str []), .slice (some ⟨U34.heap.size, 0, none⟩) 2 2] 24)
              have N_U37 := Lib.hid (Nat.ne_of_gt (Array.getElem?_eq_some_iff.1 Z_U36.out).1)
              obtain ⟨U37, hV⟩ : ∃ V, U36.alloc (.cells #[.int .i64 3, .int .i64 0, .string (str []), .slice (some ⟨U1.heap.size, 0, none⟩) 2 2, .int .i64 4, .int .i64 0, .string (str []), .slice (some ⟨U34.heap.size, 0, none⟩) 2 2] 24) = V := ⟨_, rfl⟩
              rw [hV] at hb hc ⊢
              have HBU37 := Lib.hid (bel_call HBU36.out hb)
              have E51_U37 := Lib.hid (E51_U36.out.next hb)
              have E58_U37 := Lib.hid (E58_U36.out.next hb)
              have Z_U37 := Lib.hid ((hb.block _ (Array.getElem?_eq_some_iff.1 Z_U36.out).1).trans Z_U36.out)
              have C_U37 := Lib.hid hc
              clear hV hb hc
              refine wpAnyH_ready (rs := [12]) (by kernel_rfl) (by simp) ?_
              refine AllReadyH.cons rfl (fun K hK => ?_) AllReadyH.nil
              go_simp
              refine (xo_any _ 5 _ _ _).mono ?_
              rintro e U38 ⟨he, hb⟩
              subst he
              go_wp2_with fail
              refine hK.out _ _ (bel_call HBU37.out hb) (fun _ => ?_)
              clear hK K
              have E60_U38 := Lib.hid (show KEx U38 (U4.heap.size) (two 5 (two 3 (vE aA) (nE (1))) (two 4 (vE bA) (two 4 (vE cA) (nE (-2))))) (.slice (some ⟨U36.heap.size, 0, none⟩) 2 2) from KEx.two (x := (two 3 (vE aA) (nE (1)))) (y := (two 4 (vE bA) (two 4 (vE cA) (nE (-2))))) C_U37.out (N_U37.out) E51_U37.out E58_U37.out hb 5)
              have HBU38 := Lib.hid (bel_call HBU37.out hb)
              have Z_U38 := Lib.hid ((hb.block _ (Array.getElem?_eq_some_iff.1 Z_U37.out).1).trans Z_U37.out)
              clear hb
              refine wpAnyH_ready (rs := [14]) (by kernel_rfl) (by simp) ?_
              refine AllReadyH.cons rfl (fun K hK => ?_) AllReadyH.nil
              obtain ⟨⟨z0, z1, z2, z3⟩, y0, y1, y2, y3⟩ := zero_cells Z_U38.out
              go_simp
              have hfin := VarE.put (x := two 5 (two 3 (vE aA) (nE (1))) (two 4 (vE bA) (two 4 (vE cA) (nE (-2))))) (sv := .slice (some ⟨U36.heap.size, 0, none⟩) 2 2) Z_U38.out E60_U38.out
              have hbe := HBU38.out.setRow HGE.out #[.int .i64 5, .int .i64 0, .string (str []), .slice (some ⟨U36.heap.size, 0, none⟩) 2 2]
              rw [set4_row Z_U38.out rfl]
              refine hK.out _ _ hbe (fun _ => ?_)
              clear hK K
              refine wpAnyH_done (by kernel_rfl) ?_ _
              go_wp2_with fail
              go_meet
              exact ⟨_, _, rfl, hfin, hbe⟩
            refine AllReadyH.cons rfl (fun K hK => ?_) AllReadyH.nil
            go_simp
            refine hK.out _ _ (bel_alloc HBU3.out) (fun _ => ?_)
            clear hK K
            have hb := (Below.refl U3.heap.size U3).alloc (Nat.le_refl _) (.cells #[.int .i64 0, .int .i64 0, .string ⟨#[]⟩, .slice none 0 0] 24)
            have hc := heap_alloc_last U3 (.cells #[.int .i64 0, .int .i64 0, .string ⟨#[]⟩, .slice none 0 0] 24)
            have hge := HBU3.out.size
            have hx51 := E51_U3.out.apart (.cells #[.int .i64 0, .int .i64 0, .string ⟨#[]⟩, .slice none 0 0] 24)
            obtain ⟨U39, hV⟩ : ∃ V, U3.alloc (.cells #[.int .i64 0, .int .i64 0, .string ⟨#[]⟩, .slice none 0 0] 24) = V := ⟨_, rfl⟩
            rw [hV] at hb hc hx51 ⊢
            have HBU39 := Lib.hid (bel_call HBU3.out hb)
            have E51_U39 := Lib.hid hx51
            have Z_U39 := Lib.hid hc
            have HGE := Lib.hid hge
            clear hV hb hc hge hx51
            refine wpAnyH_ready (rs := [6]) (by kernel_rfl) (by simp) ?_
            refine AllReadyH.cons rfl (fun K hK => ?_) AllReadyH.nil
            go_simp
            refine (xn_any (-2) _).mono ?_
            rintro e U40 ⟨he, hb⟩
            subst he
            go_wp2_with fail
            refine hK.out _ _ (bel_call HBU39.out hb) (fun _ => ?_)
            clear hK K
            have HBU40 := Lib.hid (bel_call HBU39.out hb)
            have E51_U40 := Lib.hid (E51_U39.out.next hb)
            have Z_U40 := Lib.hid ((hb.block _ (Array.getElem?_eq_some_iff.1 Z_U39.out).1).trans Z_U39.out)
            clear hb
            refine wpAnyH_ready (rs := [7]) (by kernel_rfl) (by simp) ?_
            refine AllReadyH.cons rfl (fun K hK => ?_) AllReadyH.nil
            go_simp
            refine hK.out _ _ (bel_alloc HBU40.out) (fun _ => ?_)
            clear hK K
            have hb := (Below.refl U40.heap.size U40).alloc (Nat.le_refl _) (.cells #[.int .i64 2, .int .i64 0, .string (str cA), .slice none 0 0, .int .i64 1, .int .i64 (-2), .string (str []), .slice none 0 0] 24)
            have hc := heap_alloc_last U40 (.cells #[.int .i64 2, .int .i64 0, .string (str cA), .slice none 0 0, .int .i64 1, .int .i64 (-2), .string (str []), .slice none 0 0] 24)
            have N_U41 := Lib.hid (Nat.ne_of_gt (Array.getElem?_eq_some_iff.1 Z_U40.out).1)
            obtain ⟨U41, hV⟩ : ∃ V, U40.alloc (.cells #[.int .i64 2, .int .i64 0, .string (str cA), .slice none 0 0, .int .i64 1, .int .i64 (-2), .string (str []), .slice none 0 0] 24) = V := ⟨_, rfl⟩
            rw [hV] at hb hc ⊢
            have HBU41 := Lib.hid (bel_call HBU40.out hb)
            have E51_U41 := Lib.hid (E51_U40.out.next hb)
            have Z_U41 := Lib.hid ((hb.block _ (Array.getElem?_eq_some_iff.1 Z_U40.out).1).trans Z_U40.out)
            have C_U41 := Lib.hid hc
            clear hV hb hc
            refine wpAnyH_ready (rs := [8]) (by kernel_rfl) (by simp) ?_
            refine AllReadyH.cons rfl (fun K hK => ?_) AllReadyH.nil
            go_simp
            refine (xo_any _ 4 _ _ _).mono ?_
            rintro e U42 ⟨he, hb⟩
            subst he
            go_wp2_with fail
            refine hK.out _ _ (bel_call HBU41.out hb) (fun _ => ?_)
            clear hK K
            have E56_U42 := Lib.hid (show KEx U42 (U3.heap.size) (two 4 (vE cA) (nE (-2))) (.slice (some ⟨U40.heap.size, 0, none⟩) 2 2) from KEx.two (x := (vE cA)) (y := (nE (-2))) C_U41.out (N_U41.out) (KEx.leaf _ _ _ _ _) (KEx.leaf _ _ _ _ _) hb 4)
            have HBU42 := Lib.hid (bel_call HBU41.out hb)
            have E51_U42 := Lib.hid (E51_U41.out.next hb)
            have Z_U42 := Lib.hid ((hb.block _ (Array.getElem?_eq_some_iff.1 Z_U41.out).1).trans Z_U41.out)
            clear hb
            refine wpAnyH_ready (rs := [9]) (by kernel_rfl) (by simp) ?_
            refine AllReadyH.cons rfl (fun K hK => ?_) AllReadyH.nil
            go_simp
            refine hK.out _ _ (bel_alloc HBU42.out) (fun _ => ?_)
            clear hK K
            have hb := (Below.refl U42.heap.size U42).alloc (Nat.le_refl _) (.cells #[.int .i64 2, .int .i64 0, .string (str bA), .slice none 0 0, .int .i64 4, .int .i64 0, .string (str []), .slice (some ⟨U40.heap.size, 0, none⟩) 2 2] 24)
            have hc := heap_alloc_last U42 (.cells #[.int .i64 2, .int .i64 0, .string (str bA), .slice none 0 0, .int .i64 4, .int .i64 0, .string (str []), .slice (some ⟨U40.heap.size, 0, none⟩) 2 2] 24)
            have N_U43 := Lib.hid (Nat.ne_of_gt (Array.getElem?_eq_some_iff.1 Z_U42.out).1)
            obtain ⟨U43, hV⟩ : ∃ V, U42.alloc (.cells #[.int .i64 2, .int .i64 0, .string (str bA), .slice none 0 0, .int .i64 4, .int .i64 0, .string (str []), .slice (some ⟨U40.heap.size, 0, none⟩) 2 2] 24) = V := ⟨_, rfl⟩
            rw [hV] at hb hc ⊢
            have HBU43 := Lib.hid (bel_call HBU42.out hb)
            have E51_U43 := Lib.hid (E51_U42.out.next hb)
            have E56_U43 := Lib.hid (E56_U42.out.next hb)
            have Z_U43 := Lib.hid ((hb.block _ (Array.getElem?_eq_some_iff.1 Z_U42.out).1).trans Z_U42.out)
            have C_U43 := Lib.hid hc
            clear hV hb hc
            refine wpAnyH_ready (rs := [10]) (by kernel_rfl) (by simp) ?_
            refine AllReadyH.cons rfl (fun K hK => ?_) AllReadyH.nil
            go_simp
            refine (xo_any _ 4 _ _ _).mono ?_
            rintro e U44 ⟨he, hb⟩
            subst he
            go_wp2_with fail
            refine hK.out _ _ (bel_call HBU43.out hb) (fun _ => ?_)
            clear hK K
            have E58_U44 := Lib.hid (show KEx U44 (U3.heap.size) (two 4 (vE bA) (two 4 (vE cA) (nE (-2)))) (.slice (some ⟨U42.heap.size, 0, none⟩) 2 2) from KEx.two (x := (vE bA)) (y := (two 4 (vE cA) (nE (-2)))) C_U43.out (N_U43.out) (KEx.leaf _ _ _ _ _) E56_U43.out hb 4)
            have HBU44 := Lib.hid (bel_call HBU43.out hb)
            have E51_U44 := Lib.hid (E51_U43.out.next hb)
            have Z_U44 := Lib.hid ((hb.block _ (Array.getElem?_eq_some_iff.1 Z_U43.out).1).trans Z_U43.out)
            clear hb
            refine wpAnyH_ready (rs := [11]) (by kernel_rfl) (by simp) ?_
            refine AllReadyH.cons rfl (fun K hK => ?_) AllReadyH.nil
            go_simp
            refine hK.out _ _ (bel_alloc HBU44.out) (fun _ => ?_)
            clear hK K
            have hb := (Below.refl U44.heap.size U44).alloc (Nat.le_refl _) (.cells #[.int .i64 3, .int .i64 0, .string (str []), .slice (some ⟨U1.heap.size, 0, none⟩) 2 2, .int .i64 4, .int .i64 0, .string (str []), .slice (some ⟨U42.heap.size, 0, none⟩) 2 2] 24)
            have hc := heap_alloc_last U44 (.cells #[.int .i64 3, .int .i64 0, .string (str []), .slice (some ⟨U1.heap.size, 0, none⟩) 2 2, .int .i64 4, .int .i64 0, .string (str []), .slice (some ⟨U42.heap.size, 0, none⟩) 2 2] 24)
            have N_U45 := Lib.hid (Nat.ne_of_gt (Array.getElem?_eq_some_iff.1 Z_U44.out).1)
            obtain ⟨U45, hV⟩ : ∃ V, U44.alloc (.cells #[.int .i64 3, .int .i64 0, .string (str []), .slice (some ⟨U1.heap.size, 0, none⟩) 2 2, .int .i64 4, .int .i64 0, .string (str []), .slice (some ⟨U42.heap.size, 0, none⟩) 2 2] 24) = V := ⟨_, rfl⟩
            rw [hV] at hb hc ⊢
            have HBU45 := Lib.hid (bel_call HBU44.out hb)
            have E51_U45 := Lib.hid (E51_U44.out.next hb)
            have E58_U45 := Lib.hid (E58_U44.out.next hb)
            have Z_U45 := Lib.hid ((hb.block _ (Array.getElem?_eq_some_iff.1 Z_U44.out).1).trans Z_U44.out)
            have C_U45 := Lib.hid hc
            clear hV hb hc
            refine wpAnyH_ready (rs := [12]) (by kernel_rfl) (by simp) ?_
            refine AllReadyH.cons rfl (fun K hK => ?_) AllReadyH.nil
            go_simp
            refine (xo_any _ 5 _ _ _).mono ?_
            rintro e U46 ⟨he, hb⟩
            subst he
            go_wp2_with fail
            refine hK.out _ _ (bel_call HBU45.out hb) (fun _ => ?_)
            clear hK K
            have E60_U46 := Lib.hid (show KEx U46 (U3.heap.size) (two 5 (two 3 (vE aA) (nE (1))) (two 4 (vE bA) (two 4 (vE cA) (nE (-2))))) (.slice (some ⟨U44.heap.size, 0, none⟩) 2 2) from KEx.two (x := (two 3 (vE aA) (nE (1)))) (y := (two 4 (vE bA) (two 4 (vE cA) (nE (-2))))) C_U45.out (N_U45.out) E51_U45.out E58_U45.out hb 5)
            have HBU46 := Lib.hid (bel_call HBU45.out hb)
            have Z_U46 := Lib.hid ((hb.block _ (Array.getElem?_eq_some_iff.1 Z_U45.out).1).trans Z_U45.out)
            clear hb
            refine wpAnyH_ready (rs := [14]) (by kernel_rfl) (by simp) ?_
            refine AllReadyH.cons rfl (fun K hK => ?_) AllReadyH.nil
            obtain ⟨⟨z0, z1, z2, z3⟩, y0, y1, y2, y3⟩ := zero_cells Z_U46.out
            go_simp
            have hfin := VarE.put (x := two 5 (two 3 (vE aA) (nE (1))) (two 4 (vE bA) (two 4 (vE cA) (nE (-2))))) (sv := .slice (some ⟨U44.heap.size, 0, none⟩) 2 2) Z_U46.out E60_U46.out
            have hbe := HBU46.out.setRow HGE.out #[.int .i64 5, .int .i64 0, .string (str []), .slice (some ⟨U44.heap.size, 0, none⟩) 2 2]
            rw [set4_row Z_U46.out rfl]
            refine hK.out _ _ hbe (fun _ => ?_)
            clear hK K
            refine wpAnyH_done (by kernel_rfl) ?_ _
            go_wp2_with fail
            go_meet
            exact ⟨_, _, rfl, hfin, hbe⟩
          refine AllReadyH.cons rfl (fun K hK => ?_) AllReadyH.nil
          go_simp
          refine hK.out _ _ (bel_alloc HBU2.out) (fun _ => ?_)
          clear hK K
          have hb := (Below.refl U2.heap.size U2).alloc (Nat.le_refl _) (.cells #[.int .i64 0, .int .i64 0, .string ⟨#[]⟩, .slice none 0 0] 24)
          have hc := heap_alloc_last U2 (.cells #[.int .i64 0, .int .i64 0, .string ⟨#[]⟩, .slice none 0 0] 24)
          have hge := HBU2.out.size
          have hn := (Array.getElem?_eq_some_iff.1 C_U2.out).1
          obtain ⟨U47, hV⟩ : ∃ V, U2.alloc (.cells #[.int .i64 0, .int .i64 0, .string ⟨#[]⟩, .slice none 0 0] 24) = V := ⟨_, rfl⟩
          rw [hV] at hb hc ⊢
          have HBU47 := Lib.hid (bel_call HBU2.out hb)
          have Z_U47 := Lib.hid hc
          have HGE := Lib.hid hge
          have C_U47 := Lib.hid ((hb.block _ hn).trans C_U2.out)
          have N_U47 := Lib.hid (Nat.ne_of_lt hn)
          clear hn
          clear hV hb hc hge 
          refine wpAnyH_ready (rs := [3]) (by kernel_rfl) (by simp) ?_
          refine AllReadyH.cons rfl (fun K hK => ?_) AllReadyH.nil
          go_simp
          refine (xo_any _ 3 _ _ _).mono ?_
          rintro e U48 ⟨he, hb⟩
          subst he
          go_wp2_with fail
          refine hK.out _ _ (bel_call HBU47.out hb) (fun _ => ?_)
          clear hK K
          have E51_U48 := Lib.hid (show KEx U48 (U2.heap.size) (two 3 (vE aA) (nE (1))) (.slice (some ⟨U1.heap.size, 0, none⟩) 2 2) from KEx.two (x := (vE aA)) (y := (nE (1))) C_U47.out (N_U47.out) (KEx.leaf _ _ _ _ _) (KEx.leaf _ _ _ _ _) hb 3)
          have HBU48 := Lib.hid (bel_call HBU47.out hb)
          have Z_U48 := Lib.hid ((hb.block _ (Array.getElem?_eq_some_iff.1 Z_U47.out).1).trans Z_U47.out)
          clear hb
          refine wpAnyH_ready (rs := [6]) (by kernel_rfl) (by simp) ?_
          refine AllReadyH.cons rfl (fun K hK => ?_) AllReadyH.nil
          go_simp
          refine (xn_any (-2) _).mono ?_
          rintro e U49 ⟨he, hb⟩
          subst he
          go_wp2_with fail
          refine hK.out _ _ (bel_call HBU48.out hb) (fun _ => ?_)
          clear hK K
          have HBU49 := Lib.hid (bel_call HBU48.out hb)
          have E51_U49 := Lib.hid (E51_U48.out.next hb)
          have Z_U49 := Lib.hid ((hb.block _ (Array.getElem?_eq_some_iff.1 Z_U48.out).1).trans Z_U48.out)
          clear hb
          refine wpAnyH_ready (rs := [7]) (by kernel_rfl) (by simp) ?_
          refine AllReadyH.cons rfl (fun K hK => ?_) AllReadyH.nil
          go_simp
          refine hK.out _ _ (bel_alloc HBU49.out) (fun _ => ?_)
          clear hK K
          have hb := (Below.refl U49.heap.size U49).alloc (Nat.le_refl _) (.cells #[.int .i64 2, .int .i64 0, .string (str cA), .slice none 0 0, .int .i64 1, .int .i64 (-2), .string (str []), .slice none 0 0] 24)
          have hc := heap_alloc_last U49 (.cells #[.int .i64 2, .int .i64 0, .string (str cA), .slice none 0 0, .int .i64 1, .int .i64 (-2), .string (str []), .slice none 0 0] 24)
          have N_U50 := Lib.hid (Nat.ne_of_gt (Array.getElem?_eq_some_iff.1 Z_U49.out).1)
          obtain ⟨U50, hV⟩ : ∃ V, U49.alloc (.cells #[.int .i64 2, .int .i64 0, .string (str cA), .slice none 0 0, .int .i64 1, .int .i64 (-2), .string (str []), .slice none 0 0] 24) = V := ⟨_, rfl⟩
          rw [hV] at hb hc ⊢
          have HBU50 := Lib.hid (bel_call HBU49.out hb)
          have E51_U50 := Lib.hid (E51_U49.out.next hb)
          have Z_U50 := Lib.hid ((hb.block _ (Array.getElem?_eq_some_iff.1 Z_U49.out).1).trans Z_U49.out)
          have C_U50 := Lib.hid hc
          clear hV hb hc
          refine wpAnyH_ready (rs := [8]) (by kernel_rfl) (by simp) ?_
          refine AllReadyH.cons rfl (fun K hK => ?_) AllReadyH.nil
          go_simp
          refine (xo_any _ 4 _ _ _).mono ?_
          rintro e U51 ⟨he, hb⟩
          subst he
          go_wp2_with fail
          refine hK.out _ _ (bel_call HBU50.out hb) (fun _ => ?_)
          clear hK K
          have E56_U51 := Lib.hid (show KEx U51 (U2.heap.size) (two 4 (vE cA) (nE (-2))) (.slice (some ⟨U49.heap.size, 0, none⟩) 2 2) from KEx.two (x := (vE cA)) (y := (nE (-2))) C_U50.out (N_U50.out) (KEx.leaf _ _ _ _ _) (KEx.leaf _ _ _ _ _) hb 4)
          have HBU51 := Lib.hid (bel_call HBU50.out hb)
          have E51_U51 := Lib.hid (E51_U50.out.next hb)
          have Z_U51 := Lib.hid ((hb.block _ (Array.getElem?_eq_some_iff.1 Z_U50.out).1).trans Z_U50.out)
          clear hb
          refine wpAnyH_ready (rs := [9]) (by kernel_rfl) (by simp) ?_
          refine AllReadyH.cons rfl (fun K hK => ?_) AllReadyH.nil
          go_simp
          refine hK.out _ _ (bel_alloc HBU51.out) (fun _ => ?_)
          clear hK K
          have hb := (Below.refl U51.heap.size U51).alloc (Nat.le_refl _) (.cells #[.int .i64 2, .int .i64 0, .string (str bA), .slice none 0 0, .int .i64 4, .int .i64 0, .string (str []), .slice (some ⟨U49.heap.size, 0, none⟩) 2 2] 24)
          have hc := heap_alloc_last U51 (.cells #[.int .i64 2, .int .i64 0, .string (str bA), .slice none 0 0, .int .i64 4, .int .i64 0, .string (str []), .slice (some ⟨U49.heap.size, 0, none⟩) 2 2] 24)
          have N_U52 := Lib.hid (Nat.ne_of_gt (Array.getElem?_eq_some_iff.1 Z_U51.out).1)
          obtain ⟨U52, hV⟩ : ∃ V, U51.alloc (.cells #[.int .i64 2, .int .i64 0, .string (str bA), .slice none 0 0, .int .i64 4, .int .i64 0, .string (str []), .slice (some ⟨U49.heap.size, 0, none⟩) 2 2] 24) = V := ⟨_, rfl⟩
          rw [hV] at hb hc ⊢
          have HBU52 := Lib.hid (bel_call HBU51.out hb)
          have E51_U52 := Lib.hid (E51_U51.out.next hb)
          have E56_U52 := Lib.hid (E56_U51.out.next hb)
          have Z_U52 := Lib.hid ((hb.block _ (Array.getElem?_eq_some_iff.1 Z_U51.out).1).trans Z_U51.out)
          have C_U52 := Lib.hid hc
          clear hV hb hc
          refine wpAnyH_ready (rs := [10]) (by kernel_rfl) (by simp) ?_
          refine AllReadyH.cons rfl (fun K hK => ?_) AllReadyH.nil
          go_simp
          refine (xo_any _ 4 _ _ _).mono ?_
          rintro e U53 ⟨he, hb⟩
          subst he
          go_wp2_with fail
          refine hK.out _ _ (bel_call HBU52.out hb) (fun _ => ?_)
          clear hK K
          have E58_U53 := Lib.hid (show KEx U53 (U2.heap.size) (two 4 (vE bA) (two 4 (vE cA) (nE (-2)))) (.slice (some ⟨U51.heap.size, 0, none⟩) 2 2) from KEx.two (x := (vE bA)) (y := (two 4 (vE cA) (nE (-2)))) C_U52.out (N_U52.out) (KEx.leaf _ _ _ _ _) E56_U52.out hb 4)
          have HBU53 := Lib.hid (bel_call HBU52.out hb)
          have E51_U53 := Lib.hid (E51_U52.out.next hb)
          have Z_U53 := Lib.hid ((hb.block _ (Array.getElem?_eq_some_iff.1 Z_U52.out).1).trans Z_U52.out)
          clear hb
          refine wpAnyH_ready (rs := [11]) (by kernel_rfl) (by simp) ?_
          refine AllReadyH.cons rfl (fun K hK => ?_) AllReadyH.nil
          go_simp
          refine hK.out _ _ (bel_alloc HBU53.out) (fun _ => ?_)
          clear hK K
          have hb := (Below.refl U53.heap.size U53).alloc (Nat.le_refl _) (.cells #[.int .i64 3, .int .i64 0, .string (str []), .slice (some ⟨U1.heap.size, 0, none⟩) 2 2, .int .i64 4, .int .i64 0, .string (str []), .slice (some ⟨U51.heap.size, 0, none⟩) 2 2] 24)
          have hc := heap_alloc_last U53 (.cells #[.int .i64 3, .int .i64 0, .string (str []), .slice (some ⟨U1.heap.size, 0, none⟩) 2 2, .int .i64 4, .int .i64 0, .string (str []), .slice (some ⟨U51.heap.size, 0, none⟩) 2 2] 24)
          have N_U54 := Lib.hid (Nat.ne_of_gt (Array.getElem?_eq_some_iff.1 Z_U53.out).1)
          obtain ⟨U54, hV⟩ : ∃ V, U53.alloc (.cells #[.int .i64 3, .int .i64 0, .string (str []), .slice (some ⟨U1.heap.size, 0, none⟩) 2 2, .int .i64 4, .int .i64 0, .string (str []), .slice (some ⟨U51.heap.size, 0, none⟩) 2 2] 24) = V := ⟨_, rfl⟩
          rw [hV] at hb hc ⊢
          have HBU54 := Lib.hid (bel_call HBU53.out hb)
          have E51_U54 := Lib.hid (E51_U53.out.next hb)
          have E58_U54 := Lib.hid (E58_U53.out.next hb)
          have Z_U54 := Lib.hid ((hb.block _ (Array.getElem?_eq_some_iff.1 Z_U53.out).1).trans Z_U53.out)
          have C_U54 := Lib.hid hc
          clear hV hb hc
          refine wpAnyH_ready (rs := [12]) (by kernel_rfl) (by simp) ?_
          refine AllReadyH.cons rfl (fun K hK => ?_) AllReadyH.nil
          go_simp
          refine (xo_any _ 5 _ _ _).mono ?_
          rintro e U55 ⟨he, hb⟩
          subst he
          go_wp2_with fail
          refine hK.out _ _ (bel_call HBU54.out hb) (fun _ => ?_)
          clear hK K
          have E60_U55 := Lib.hid (show KEx U55 (U2.heap.size) (two 5 (two 3 (vE aA) (nE (1))) (two 4 (vE bA) (two 4 (vE cA) (nE (-2))))) (.slice (some ⟨U53.heap.size, 0, none⟩) 2 2) from KEx.two (x := (two 3 (vE aA) (nE (1)))) (y := (two 4 (vE bA) (two 4 (vE cA) (nE (-2))))) C_U54.out (N_U54.out) E51_U54.out E58_U54.out hb 5)
          have HBU55 := Lib.hid (bel_call HBU54.out hb)
          have Z_U55 := Lib.hid ((hb.block _ (Array.getElem?_eq_some_iff.1 Z_U54.out).1).trans Z_U54.out)
          clear hb
          refine wpAnyH_ready (rs := [14]) (by kernel_rfl) (by simp) ?_
          refine AllReadyH.cons rfl (fun K hK => ?_) AllReadyH.nil
          obtain ⟨⟨z0, z1, z2, z3⟩, y0, y1, y2, y3⟩ := zero_cells Z_U55.out
          go_simp
          have hfin := VarE.put (x := two 5 (two 3 (vE aA) (nE (1))) (two 4 (vE bA) (two 4 (vE cA) (nE (-2))))) (sv := .slice (some ⟨U53.heap.size, 0, none⟩) 2 2) Z_U55.out E60_U55.out
          have hbe := HBU55.out.setRow HGE.out #[.int .i64 5, .int .i64 0, .string (str []), .slice (some ⟨U53.heap.size, 0, none⟩) 2 2]
          rw [set4_row Z_U55.out rfl]
          refine hK.out _ _ hbe (fun _ => ?_)
          clear hK K
          refine wpAnyH_done (by kernel_rfl) ?_ _
          go_wp2_with fail
          go_meet
          exact ⟨_, _, rfl, hfin, hbe⟩
        refine AllReadyH.cons rfl (fun K hK => ?_) AllReadyH.nil
        go_simp
        refine hK.out _ _ (bel_alloc HBU1.out) (fun _ => ?_)
        clear hK K
        have hb := (Below.refl U1.heap.size U1).alloc (Nat.le_refl _) (.cells #[.int .i64 0, .int .i64 0, .string ⟨#[]⟩, .slice none 0 0] 24)
        have hc := heap_alloc_last U1 (.cells #[.int .i64 0, .int .i64 0, .string ⟨#[]⟩, .slice none 0 0] 24)
        have hge := HBU1.out.size
        obtain ⟨U56, hV⟩ : ∃ V, U1.alloc (.cells #[.int .i64 0, .int .i64 0, .string ⟨#[]⟩, .slice none 0 0] 24) = V := ⟨_, rfl⟩
        rw [hV] at hb hc ⊢
        have HBU56 := Lib.hid (bel_call HBU1.out hb)
        have Z_U56 := Lib.hid hc
        have HGE := Lib.hid hge
        clear hV hb hc hge 
        refine wpAnyH_ready (rs := [2]) (by kernel_rfl) (by simp) ?_
        refine AllReadyH.cons rfl (fun K hK => ?_) AllReadyH.nil
        go_simp
        refine hK.out _ _ (bel_alloc HBU56.out) (fun _ => ?_)
        clear hK K
        have hb := (Below.refl U56.heap.size U56).alloc (Nat.le_refl _) (.cells #[.int .i64 2, .int .i64 0, .string (str aA), .slice none 0 0, .int .i64 1, .int .i64 (1), .string (str []), .slice none 0 0] 24)
        have hc := heap_alloc_last U56 (.cells #[.int .i64 2, .int .i64 0, .string (str aA), .slice none 0 0, .int .i64 1, .int .i64 (1), .string (str []), .slice none 0 0] 24)
        have N_U57 := Lib.hid (Nat.ne_of_gt (Array.getElem?_eq_some_iff.1 Z_U56.out).1)
        obtain ⟨U57, hV⟩ : ∃ V, U56.alloc (.cells #[.int .i64 2, .int .i64 0, .string (str aA), .slice none 0 0, .int .i64 1, .int .i64 (1), .string (str []), .slice none 0 0] 24) = V := ⟨_, rfl⟩
        rw [hV] at hb hc ⊢
        have HBU57 := Lib.hid (bel_call HBU56.out hb)
        have Z_U57 := Lib.hid ((hb.block _ (Array.getElem?_eq_some_iff.1 Z_U56.out).1).trans Z_U56.out)
        have C_U57 := Lib.hid hc
        clear hV hb hc
        refine wpAnyH_ready (rs := [3]) (by kernel_rfl) (by simp) ?_
        refine AllReadyH.cons rfl (fun K hK => ?_) AllReadyH.nil
        go_simp
        refine (xo_any _ 3 _ _ _).mono ?_
        rintro e U58 ⟨he, hb⟩
        subst he
        go_wp2_with fail
        refine hK.out _ _ (bel_call HBU57.out hb) (fun _ => ?_)
        clear hK K
        have E51_U58 := Lib.hid (show KEx U58 (U1.heap.size) (two 3 (vE aA) (nE (1))) (.slice (some ⟨U56.heap.size, 0, none⟩) 2 2) from KEx.two (x := (vE aA)) (y := (nE (1))) C_U57.out (N_U57.out) (KEx.leaf _ _ _ _ _) (KEx.leaf _ _ _ _ _) hb 3)
        have HBU58 := Lib.hid (bel_call HBU57.out hb)
        have Z_U58 := Lib.hid ((hb.block _ (Array.getElem?_eq_some_iff.1 Z_U57.out).1).trans Z_U57.out)
        clear hb
        refine wpAnyH_ready (rs := [6]) (by kernel_rfl) (by simp) ?_
        refine AllReadyH.cons rfl (fun K hK => ?_) AllReadyH.nil
        go_simp
        refine (xn_any (-2) _).mono ?_
        rintro e U59 ⟨he, hb⟩
        subst he
        go_wp2_with fail
        refine hK.out _ _ (bel_call HBU58.out hb) (fun _ => ?_)
        clear hK K
        have HBU59 := Lib.hid (bel_call HBU58.out hb)
        have E51_U59 := Lib.hid (E51_U58.out.next hb)
        have Z_U59 := Lib.hid ((hb.block _ (Array.getElem?_eq_some_iff.1 Z_U58.out).1).trans Z_U58.out)
        clear hb
        refine wpAnyH_ready (rs := [7]) (by kernel_rfl) (by simp) ?_
        refine AllReadyH.cons rfl (fun K hK => ?_) AllReadyH.nil
        go_simp
        refine hK.out _ _ (bel_alloc HBU59.out) (fun _ => ?_)
        clear hK K
        have hb := (Below.refl U59.heap.size U59).alloc (Nat.le_refl _) (.cells #[.int .i64 2, .int .i64 0, .string (str cA), .slice none 0 0, .int .i64 1, .int .i64 (-2), .string (str []), .slice none 0 0] 24)
        have hc := heap_alloc_last U59 (.cells #[.int .i64 2, .int .i64 0, .string (str cA), .slice none 0 0, .int .i64 1, .int .i64 (-2), .string (str []), .slice none 0 0] 24)
        have N_U60 := Lib.hid (Nat.ne_of_gt (Array.getElem?_eq_some_iff.1 Z_U59.out).1)
        obtain ⟨U60, hV⟩ : ∃ V, U59.alloc (.cells #[.int .i64 2, .int .i64 0, .string (str cA), .slice none 0 0, .int .i64 1, .int .i64 (-2), .string (str []), .slice none 0 0] 24) = V := ⟨_, rfl⟩
        rw [hV] at hb hc ⊢
        have HBU60 := Lib.hid (bel_call HBU59.out hb)
        have E51_U60 := Lib.hid (E51_U59.out.next hb)
        have Z_U60 := Lib.hid ((hb.block _ (Array.getElem?_eq_some_iff.1 Z_U59.out).1).trans Z_U59.out)
        have C_U60 := Lib.hid hc
        clear hV hb hc
        refine wpAnyH_ready (rs := [8]) (by kernel_rfl) (by simp) ?_
        refine AllReadyH.cons rfl (fun K hK => ?_) AllReadyH.nil
        go_simp
        refine (xo_any _ 4 _ _ _).mono ?_
        rintro e U61 ⟨he, hb⟩
        subst he
        go_wp2_with fail
        refine hK.out _ _ (bel_call HBU60.out hb) (fun _ => ?_)
        clear hK K
        have E56_U61 := Lib.hid (show KEx U61 (U1.heap.size) (two 4 (vE cA) (nE (-2))) (.slice (some ⟨U59.heap.size, 0, none⟩) 2 2) from KEx.two (x := (vE cA)) (y := (nE (-2))) C_U60.out (N_U60.out) (KEx.leaf _ _ _ _ _) (KEx.leaf _ _ _ _ _) hb 4)
        have HBU61 := Lib.hid (bel_call HBU60.out hb)
        have E51_U61 := Lib.hid (E51_U60.out.next hb)
        have Z_U61 := Lib.hid ((hb.block _ (Array.getElem?_eq_some_iff.1 Z_U60.out).1).trans Z_U60.out)
        clear hb
        refine wpAnyH_ready (rs := [9]) (by kernel_rfl) (by simp) ?_
        refine AllReadyH.cons rfl (fun K hK => ?_) AllReadyH.nil
        go_simp
        refine hK.out _ _ (bel_alloc HBU61.out) (fun _ => ?_)
        clear hK K
        have hb := (Below.refl U61.heap.size U61).alloc (Nat.le_refl _) (.cells #[.int .i64 2, .int .i64 0, .string (str bA), .slice none 0 0, .int .i64 4, .int .i64 0, .string (str []), .slice (some ⟨U59.heap.size, 0, none⟩) 2 2] 24)
        have hc := heap_alloc_last U61 (.cells #[.int .i64 2, .int .i64 0, .string (str bA), .slice none 0 0, .int .i64 4, .int .i64 0, .string (str []), .slice (some ⟨U59.heap.size, 0, none⟩) 2 2] 24)
        have N_U62 := Lib.hid (Nat.ne_of_gt (Array.getElem?_eq_some_iff.1 Z_U61.out).1)
        obtain ⟨U62, hV⟩ : ∃ V, U61.alloc (.cells #[.int .i64 2, .int .i64 0, .string (str bA), .slice none 0 0, .int .i64 4, .int .i64 0, .string (str []), .slice (some ⟨U59.heap.size, 0, none⟩) 2 2] 24) = V := ⟨_, rfl⟩
        rw [hV] at hb hc ⊢
        have HBU62 := Lib.hid (bel_call HBU61.out hb)
        have E51_U62 := Lib.hid (E51_U61.out.next hb)
        have E56_U62 := Lib.hid (E56_U61.out.next hb)
        have Z_U62 := Lib.hid ((hb.block _ (Array.getElem?_eq_some_iff.1 Z_U61.out).1).trans Z_U61.out)
        have C_U62 := Lib.hid hc
        clear hV hb hc
        refine wpAnyH_ready (rs := [10]) (by kernel_rfl) (by simp) ?_
        refine AllReadyH.cons rfl (fun K hK => ?_) AllReadyH.nil
        go_simp
        refine (xo_any _ 4 _ _ _).mono ?_
        rintro e U63 ⟨he, hb⟩
        subst he
        go_wp2_with fail
        refine hK.out _ _ (bel_call HBU62.out hb) (fun _ => ?_)
        clear hK K
        have E58_U63 := Lib.hid (show KEx U63 (U1.heap.size) (two 4 (vE bA) (two 4 (vE cA) (nE (-2)))) (.slice (some ⟨U61.heap.size, 0, none⟩) 2 2) from KEx.two (x := (vE bA)) (y := (two 4 (vE cA) (nE (-2)))) C_U62.out (N_U62.out) (KEx.leaf _ _ _ _ _) E56_U62.out hb 4)
        have HBU63 := Lib.hid (bel_call HBU62.out hb)
        have E51_U63 := Lib.hid (E51_U62.out.next hb)
        have Z_U63 := Lib.hid ((hb.block _ (Array.getElem?_eq_some_iff.1 Z_U62.out).1).trans Z_U62.out)
        clear hb
        refine wpAnyH_ready (rs := [11]) (by kernel_rfl) (by simp) ?_
        refine AllReadyH.cons rfl (fun K hK => ?_) AllReadyH.nil
        go_simp
        refine hK.out _ _ (bel_alloc HBU63.out) (fun _ => ?_)
        clear hK K
        have hb := (Below.refl U63.heap.size U63).alloc (Nat.le_refl _) (.cells #[.int .i64 3, .int .i64 0, .string (str []), .slice (some ⟨U56.heap.size, 0, none⟩) 2 2, .int .i64 4, .int .i64 0, .string (str []), .slice (some ⟨U61.heap.size, 0, none⟩) 2 2] 24)
        have hc := heap_alloc_last U63 (.cells #[.int .i64 3, .int .i64 0, .string (str []), .slice (some ⟨U56.heap.size, 0, none⟩) 2 2, .int .i64 4, .int .i64 0, .string (str []), .slice (some ⟨U61.heap.size, 0, none⟩) 2 2] 24)
        have N_U64 := Lib.hid (Nat.ne_of_gt (Array.getElem?_eq_some_iff.1 Z_U63.out).1)
        obtain ⟨U64, hV⟩ : ∃ V, U63.alloc (.cells #[.int .i64 3, .int .i64 0, .string (str []), .slice (some ⟨U56.heap.size, 0, none⟩) 2 2, .int .i64 4, .int .i64 0, .string (str []), .slice (some ⟨U61.heap.size, 0, none⟩) 2 2] 24) = V := ⟨_, rfl⟩
        rw [hV] at hb hc ⊢
        have HBU64 := Lib.hid (bel_call HBU63.out hb)
        have E51_U64 := Lib.hid (E51_U63.out.next hb)
        have E58_U64 := Lib.hid (E58_U63.out.next hb)
        have Z_U64 := Lib.hid ((hb.block _ (Array.getElem?_eq_some_iff.1 Z_U63.out).1).trans Z_U63.out)
        have C_U64 := Lib.hid hc
        clear hV hb hc
        refine wpAnyH_ready (rs := [12]) (by kernel_rfl) (by simp) ?_
        refine AllReadyH.cons rfl (fun K hK => ?_) AllReadyH.nil
        go_simp
        refine (xo_any _ 5 _ _ _).mono ?_
        rintro e U65 ⟨he, hb⟩
        subst he
        go_wp2_with fail
        refine hK.out _ _ (bel_call HBU64.out hb) (fun _ => ?_)
        clear hK K
        have E60_U65 := Lib.hid (show KEx U65 (U1.heap.size) (two 5 (two 3 (vE aA) (nE (1))) (two 4 (vE bA) (two 4 (vE cA) (nE (-2))))) (.slice (some ⟨U63.heap.size, 0, none⟩) 2 2) from KEx.two (x := (two 3 (vE aA) (nE (1)))) (y := (two 4 (vE bA) (two 4 (vE cA) (nE (-2))))) C_U64.out (N_U64.out) E51_U64.out E58_U64.out hb 5)
        have HBU65 := Lib.hid (bel_call HBU64.out hb)
        have Z_U65 := Lib.hid ((hb.block _ (Array.getElem?_eq_some_iff.1 Z_U64.out).1).trans Z_U64.out)
        clear hb
        refine wpAnyH_ready (rs := [14]) (by kernel_rfl) (by simp) ?_
        refine AllReadyH.cons rfl (fun K hK => ?_) AllReadyH.nil
        obtain ⟨⟨z0, z1, z2, z3⟩, y0, y1, y2, y3⟩ := zero_cells Z_U65.out
        go_simp
        have hfin := VarE.put (x := two 5 (two 3 (vE aA) (nE (1))) (two 4 (vE bA) (two 4 (vE cA) (nE (-2))))) (sv := .slice (some ⟨U63.heap.size, 0, none⟩) 2 2) Z_U65.out E60_U65.out
        have hbe := HBU65.out.setRow HGE.out #[.int .i64 5, .int .i64 0, .string (str []), .slice (some ⟨U63.heap.size, 0, none⟩) 2 2]
        rw [set4_row Z_U65.out rfl]
        refine hK.out _ _ hbe (fun _ => ?_)
        clear hK K
        refine wpAnyH_done (by kernel_rfl) ?_ _
        go_wp2_with fail
        go_meet
        exact ⟨_, _, rfl, hfin, hbe⟩
      refine AllReadyH.cons rfl (fun K hK => ?_) AllReadyH.nil
      go_simp
      refine hK.out _ _ (bel_alloc HBU0.out) (fun _ => ?_)
      clear hK K
      have hb := (Below.refl U0.heap.size U0).alloc (Nat.le_refl _) (.cells #[.int .i64 0, .int .i64 0, .string ⟨#[]⟩, .slice none 0 0] 24)
      have hc := heap_alloc_last U0 (.cells #[.int .i64 0, .int .i64 0, .string ⟨#[]⟩, .slice none 0 0] 24)
      have hge := HBU0.out.size
      obtain ⟨U66, hV⟩ : ∃ V, U0.alloc (.cells #[.int .i64 0, .int .i64 0, .string ⟨#[]⟩, .slice none 0 0] 24) = V := ⟨_, rfl⟩
      rw [hV] at hb hc ⊢
      have HBU66 := Lib.hid (bel_call HBU0.out hb)
      have Z_U66 := Lib.hid hc
      have HGE := Lib.hid hge
      clear hV hb hc hge 
      refine wpAnyH_ready (rs := [1]) (by kernel_rfl) (by simp) ?_
      refine AllReadyH.cons rfl (fun K hK => ?_) AllReadyH.nil
      go_simp
      refine (xn_any (1) _).mono ?_
      rintro e U67 ⟨he, hb⟩
      subst he
      go_wp2_with fail
      refine hK.out _ _ (bel_call HBU66.out hb) (fun _ => ?_)
      clear hK K
      have HBU67 := Lib.hid (bel_call HBU66.out hb)
      have Z_U67 := Lib.hid ((hb.block _ (Array.getElem?_eq_some_iff.1 Z_U66.out).1).trans Z_U66.out)
      clear hb
      refine wpAnyH_ready (rs := [2]) (by kernel_rfl) (by simp) ?_
      refine AllReadyH.cons rfl (fun K hK => ?_) AllReadyH.nil
      go_simp
      refine hK.out _ _ (bel_alloc HBU67.out) (fun _ => ?_)
      clear hK K
      have hb := (Below.refl U67.heap.size U67).alloc (Nat.le_refl _) (.cells #[.int .i64 2, .int .i64 0, .string (str aA), .slice none 0 0, .int .i64 1, .int .i64 (1), .string (str []), .slice none 0 0] 24)
      have hc := heap_alloc_last U67 (.cells #[.int .i64 2, .int .i64 0, .string (str aA), .slice none 0 0, .int .i64 1, .int .i64 (1), .string (str []), .slice none 0 0] 24)
      have N_U68 := Lib.hid (Nat.ne_of_gt (Array.getElem?_eq_some_iff.1 Z_U67.out).1)
      obtain ⟨U68, hV⟩ : ∃ V, U67.alloc (.cells #[.int .i64 2, .int .i64 0, .string (str aA), .slice none 0 0, .int .i64 1, .int .i64 (1), .string (str []), .slice none 0 0] 24) = V := ⟨_, rfl⟩
      rw [hV] at hb hc ⊢
      have HBU68 := Lib.hid (bel_call HBU67.out hb)
      have Z_U68 := Lib.hid ((hb.block _ (Array.getElem?_eq_some_iff.1 Z_U67.out).1).trans Z_U67.out)
      have C_U68 := Lib.hid hc
      clear hV hb hc
      refine wpAnyH_ready (rs := [3]) (by kernel_rfl) (by simp) ?_
      refine AllReadyH.cons rfl (fun K hK => ?_) AllReadyH.nil
      go_simp
      refine (xo_any _ 3 _ _ _).mono ?_
      rintro e U69 ⟨he, hb⟩
      subst he
      go_wp2_with fail
      refine hK.out _ _ (bel_call HBU68.out hb) (fun _ => ?_)
      clear hK K
      have E51_U69 := Lib.hid (show KEx U69 (U0.heap.size) (two 3 (vE aA) (nE (1))) (.slice (some ⟨U67.heap.size, 0, none⟩) 2 2) from KEx.two (x := (vE aA)) (y := (nE (1))) C_U68.out (N_U68.out) (KEx.leaf _ _ _ _ _) (KEx.leaf _ _ _ _ _) hb 3)
      have HBU69 := Lib.hid (bel_call HBU68.out hb)
      have Z_U69 := Lib.hid ((hb.block _ (Array.getElem?_eq_some_iff.1 Z_U68.out).1).trans Z_U68.out)
      clear hb
      refine wpAnyH_ready (rs := [6]) (by kernel_rfl) (by simp) ?_
      refine AllReadyH.cons rfl (fun K hK => ?_) AllReadyH.nil
      go_simp
      refine (xn_any (-2) _).mono ?_
      rintro e U70 ⟨he, hb⟩
      subst he
      go_wp2_with fail
      refine hK.out _ _ (bel_call HBU69.out hb) (fun _ => ?_)
      clear hK K
      have HBU70 := Lib.hid (bel_call HBU69.out hb)
      have E51_U70 := Lib.hid (E51_U69.out.next hb)
      have Z_U70 := Lib.hid ((hb.block _ (Array.getElem?_eq_some_iff.1 Z_U69.out).1).trans Z_U69.out)
      clear hb
      refine wpAnyH_ready (rs := [7]) (by kernel_rfl) (by simp) ?_
      refine AllReadyH.cons rfl (fun K hK => ?_) AllReadyH.nil
      go_simp
      refine hK.out _ _ (bel_alloc HBU70.out) (fun _ => ?_)
      clear hK K
      have hb := (Below.refl U70.heap.size U70).alloc (Nat.le_refl _) (.cells #[.int .i64 2, .int .i64 0, .string (str cA), .slice none 0 0, .int .i64 1, .int .i64 (-2), .string (str []), .slice none 0 0] 24)
      have hc := heap_alloc_last U70 (.cells #[.int .i64 2, .int .i64 0, .string (str cA), .slice none 0 0, .int .i64 1, .int .i64 (-2), .string (str []), .slice none 0 0] 24)
      have N_U71 := Lib.hid (Nat.ne_of_gt (Array.getElem?_eq_some_iff.1 Z_U70.out).1)
      obtain ⟨U71, hV⟩ : ∃ V, U70.alloc (.cells #[.int .i64 2, .int .i64 0, .string (str cA), .slice none 0 0, .int .i64 1, .int .i64 (-2), .string (str []), .slice none 0 0] 24) = V := ⟨_, rfl⟩
      rw [hV] at hb hc ⊢
      have HBU71 := Lib.hid (bel_call HBU70.out hb)
      have E51_U71 := Lib.hid (E51_U70.out.next hb)
      have Z_U71 := Lib.hid ((hb.block _ (Array.getElem?_eq_some_iff.1 Z_U70.out).1).trans Z_U70.out)
      have C_U71 := Lib.hid hc
      clear hV hb hc
      refine wpAnyH_ready (rs := [8]) (by kernel_rfl) (by simp) ?_
      refine AllReadyH.cons rfl (fun K hK => ?_) AllReadyH.nil
      go_simp
      refine (xo_any _ 4 _ _ _).mono ?_
      rintro e U72 ⟨he, hb⟩
      subst he
      go_wp2_with fail
      refine hK.out _ _ (bel_call HBU71.out hb) (fun _ => ?_)
      clear hK K
      have E56_U72 := Lib.hid (show KEx U72 (U0.heap.size) (two 4 (vE cA) (nE (-2))) (.slice (some ⟨U70.heap.size, 0, none⟩) 2 2) from KEx.two (x := (vE cA)) (y := (nE (-2))) C_U71.out (N_U71.out) (KEx.leaf _ _ _ _ _) (KEx.leaf _ _ _ _ _) hb 4)
      have HBU72 := Lib.hid (bel_call HBU71.out hb)
      have E51_U72 := Lib.hid (E51_U71.out.next hb)
      have Z_U72 := Lib.hid ((hb.block _ (Array.getElem?_eq_some_iff.1 Z_U71.out).1).trans Z_U71.out)
      clear hb
      refine wpAnyH_ready (rs := [9]) (by kernel_rfl) (by simp) ?_
      refine AllReadyH.cons rfl (fun K hK => ?_) AllReadyH.nil
      go_simp
      refine hK.out _ _ (bel_alloc HBU72.out) (fun _ => ?_)
      clear hK K
      have hb := (Below.refl U72.heap.size U72).alloc (Nat.le_refl _) (.cells #[.int .i64 2, .int .i64 0, .string (str bA), .slice none 0 0, .int .i64 4, .int .i64 0, .string (str []), .slice (some ⟨U70.heap.size, 0, none⟩) 2 2] 24)
      have hc := heap_alloc_last U72 (.cells #[.int .i64 2, .int .i64 0, .string (str bA), .slice none 0 0, .int .i64 4, .int .i64 0, .string (str []), .slice (some ⟨U70.heap.size, 0, none⟩) 2 2] 24)
      have N_U73 := Lib.hid (Nat.ne_of_gt (Array.getElem?_eq_some_iff.1 Z_U72.out).1)
      obtain ⟨U73, hV⟩ : ∃ V, U72.alloc (.cells #[.int .i64 2, .int .i64 0, .string (str bA), .slice none 0 0, .int .i64 4, .int .i64 0, .string (str []), .slice (some ⟨U70.heap.size, 0, none⟩) 2 2] 24) = V := ⟨_, rfl⟩
      rw [hV] at hb hc ⊢
      have HBU73 := Lib.hid (bel_call HBU72.out hb)
      have E51_U73 := Lib.hid (E51_U72.out.next hb)
      have E56_U73 := Lib.hid (E56_U72.out.next hb)
      have Z_U73 := Lib.hid ((hb.block _ (Array.getElem?_eq_some_iff.1 Z_U72.out).1).trans Z_U72.out)
      have C_U73 := Lib.hid hc
      clear hV hb hc
      refine wpAnyH_ready (rs := [10]) (by kernel_rfl) (by simp) ?_
      refine AllReadyH.cons rfl (fun K hK => ?_) AllReadyH.nil
      go_simp
      refine (xo_any _ 4 _ _ _).mono ?_
      rintro e U74 ⟨he, hb⟩
      subst he
      go_wp2_with fail
      refine hK.out _ _ (bel_call HBU73.out hb) (fun _ => ?_)
      clear hK K
      have E58_U74 := Lib.hid (show KEx U74 (U0.heap.size) (two 4 (vE bA) (two 4 (vE cA) (nE (-2)))) (.slice (some ⟨U72.heap.size, 0, none⟩) 2 2) from KEx.two (x := (vE bA)) (y := (two 4 (vE cA) (nE (-2)))) C_U73.out (N_U73.out) (KEx.leaf _ _ _ _ _) E56_U73.out hb 4)
      have HBU74 := Lib.hid (bel_call HBU73.out hb)
      have E51_U74 := Lib.hid (E51_U73.out.next hb)
      have Z_U74 := Lib.hid ((hb.block _ (Array.getElem?_eq_some_iff.1 Z_U73.out).1).trans Z_U73.out)
      clear hb
      refine wpAnyH_ready (rs := [11]) (by kernel_rfl) (by simp) ?_
      refine AllReadyH.cons rfl (fun K hK => ?_) AllReadyH.nil
      go_simp
      refine hK.out _ _ (bel_alloc HBU74.out) (fun _ => ?_)
      clear hK K
      have hb := (Below.refl U74.heap.size U74).alloc (Nat.le_refl _) (.cells #[.int .i64 3, .int .i64 0, .string (str []), .slice (some ⟨U67.heap.size, 0, none⟩) 2 2, .int .i64 4, .int .i64 0, .string (str []), .slice (some ⟨U72.heap.size, 0, none⟩) 2 2] 24)
      have hc := heap_alloc_last U74 (.cells #[.int .i64 3, .int .i64 0, .string (str []), .slice (some ⟨U67.heap.size, 0, none⟩) 2 2, .int .i64 4, .int .i64 0, .string (str []), .slice (some ⟨U72.heap.size, 0, none⟩) 2 2] 24)
      have N_U75 := Lib.hid (Nat.ne_of_gt (Array.getElem?_eq_some_iff.1 Z_U74.out).1)
      obtain ⟨U75, hV⟩ : ∃ V, U74.alloc (.cells #[.int .i64 3, .int .i64 0, .string (str []), .slice (some ⟨U67.heap.size, 0, none⟩) 2 2, .int .i64 4, .int .i64 0, .string (str []), .slice (some ⟨U72.heap.size, 0, none⟩) 2 2] 24) = V := ⟨_, rfl⟩
      rw [hV] at hb hc ⊢
      have HBU75 := Lib.hid (bel_call HBU74.out hb)
      have E51_U75 := Lib.hid (E51_U74.out.next hb)
      have E58_U75 := Lib.hid (E58_U74.out.next hb)
      have Z_U75 := Lib.hid ((hb.block _ (Array.getElem?_eq_some_iff.1 Z_U74.out).1).trans Z_U74.out)
      have C_U75 := Lib.hid hc
      clear hV hb hc
      refine wpAnyH_ready (rs := [12]) (by kernel_rfl) (by simp) ?_
      refine AllReadyH.cons rfl (fun K hK => ?_) AllReadyH.nil
      go_simp
      refine (xo_any _ 5 _ _ _).mono ?_
      rintro e U76 ⟨he, hb⟩
      subst he
      go_wp2_with fail
      refine hK.out _ _ (bel_call HBU75.out hb) (fun _ => ?_)
      clear hK K
      have E60_U76 := Lib.hid (show KEx U76 (U0.heap.size) (two 5 (two 3 (vE aA) (nE (1))) (two 4 (vE bA) (two 4 (vE cA) (nE (-2))))) (.slice (some ⟨U74.heap.size, 0, none⟩) 2 2) from KEx.two (x := (two 3 (vE aA) (nE (1)))) (y := (two 4 (vE bA) (two 4 (vE cA) (nE (-2))))) C_U75.out (N_U75.out) E51_U75.out E58_U75.out hb 5)
      have HBU76 := Lib.hid (bel_call HBU75.out hb)
      have Z_U76 := Lib.hid ((hb.block _ (Array.getElem?_eq_some_iff.1 Z_U75.out).1).trans Z_U75.out)
      clear hb
      refine wpAnyH_ready (rs := [14]) (by kernel_rfl) (by simp) ?_
      refine AllReadyH.cons rfl (fun K hK => ?_) AllReadyH.nil
      obtain ⟨⟨z0, z1, z2, z3⟩, y0, y1, y2, y3⟩ := zero_cells Z_U76.out
      go_simp
      have hfin := VarE.put (x := two 5 (two 3 (vE aA) (nE (1))) (two 4 (vE bA) (two 4 (vE cA) (nE (-2))))) (sv := .slice (some ⟨U74.heap.size, 0, none⟩) 2 2) Z_U76.out E60_U76.out
      have hbe := HBU76.out.setRow HGE.out #[.int .i64 5, .int .i64 0, .string (str []), .slice (some ⟨U74.heap.size, 0, none⟩) 2 2]
      rw [set4_row Z_U76.out rfl]
      refine hK.out _ _ hbe (fun _ => ?_)
      clear hK K
      refine wpAnyH_done (by kernel_rfl) ?_ _
      go_wp2_with fail
      go_meet
      exact ⟨_, _, rfl, hfin, hbe⟩
    case rest =>
      obtain ⟨gy, sy, rfl, hY, hbd⟩ := hcut
      have HX10 := Lib.hid (HX9.out.next hbd)
      have HY10 := Lib.hid hY
      have HB10 := Lib.hid (bel_call H9.out.2.2.2 hbd)
      have HRL10 := Lib.hid (HRL9.out.next hbd)
      clear hY hbd HX9 H9 HRL9
      go_wp2_with fail
      refine (parseX_any _ _ (by decide)).mono ?_
      rintro e w11 ⟨A11, c11, he, hrd11, hb⟩
      rw [show bts _ = t4A from rfl, aw_p4] at he hrd11
      subst he
      have HZ11 := Lib.hid (show KE w11 xA _ from hrd11.more fun b hb => ⟨Nat.zero_le _, hb.2⟩)
      have HX11 := Lib.hid (HX10.out.next hb)
      have HY11 := Lib.hid (HY10.out.next hb)
      have HB11 := Lib.hid (bel_call HB10.out hb)
      have HRL11 := Lib.hid (HRL10.out.next hb)
      clear hb hrd11 HX10 HY10 HB10 HRL10
      go_upto_region 8 with fail
      have hz := VarE.new_ HZ11.out
      have hb12 := (Below.refl w11.heap.size w11).alloc (Nat.le_refl _) (.cells #[.int .i64 xA.op, .int .i64 xA.n, .string (str xA.name), .slice A11 xA.kids.toList.length c11] 24)
      obtain ⟨gz, hgz⟩ : ∃ g, w11.heap.size = g := ⟨_, rfl⟩
      obtain ⟨W12, hW12⟩ : ∃ W, w11.alloc (.cells #[.int .i64 xA.op, .int .i64 xA.n, .string (str xA.name), .slice A11 xA.kids.toList.length c11] 24) = W := ⟨_, rfl⟩
      have HZ := Lib.hid (show VarE W12 gz xA _ by rw [← hW12, ← hgz]; exact hz)
      have HX := Lib.hid (show VarE W12 gx xA sx by rw [← hW12]; exact HX11.out.next hb12)
      have HY := Lib.hid (show VarE W12 gy yA sy by rw [← hW12]; exact HY11.out.next hb12)
      have HB := Lib.hid (show Below w.heap.size w W12 by rw [← hW12]; exact bel_call HB11.out hb12)
      have HRL := Lib.hid (show RdRl W12 _ lA by rw [← hW12]; exact HRL11.out.next hb12)
      rw [hW12, hgz]
      clear hz hb12 hgz hW12 HZ11 HX11 HY11 HB11 HRL11
      obtain ⟨ax, cx, hfx, _, _⟩ := HX.out.2.form
      obtain ⟨ay, cy, hfy, _, _⟩ := HY.out.2.form
      subst hfx
      subst hfy
      have HV12 := Lib.hid (HV.out.next HB.out)
      obtain ⟨bl, ol, Al, cl, hAl, hbl, _, hrl⟩ := HRL.out.at_ (i := 1) (x := ⟨2, one 9 (two 7 (nE 0) (vE rotW))⟩) rfl
      subst hAl
      have hg1 : W12.cell? ⟨bl, ol + 5, none⟩ = some (.int .i64 2) := by have := hrl 0 _ rfl; simpa using this
      clear hrl
      obtain ⟨x0, x1, x2, x3⟩ := HX.out.cells
      go_wp2_with fail
      refine (expr_any xA aw_n1 ax cx _ HV12.out HX.out.2).mono ?_
      rintro e w21 ⟨he, hb⟩
      rw [aw_e1] at he
      subst he
      have HX_21 := Lib.hid (HX.out.next hb)
      have HY_21 := Lib.hid (HY.out.next hb)
      have HZ_21 := Lib.hid (HZ.out.next hb)
      have HRL_21 := Lib.hid (HRL.out.next hb)
      have HB_21 := Lib.hid (bel_call HB.out hb)
      have HV12_21 := Lib.hid (HV12.out.next hb)
      clear hb x0 x1 x2 x3 HX HY HZ HRL HB HV12 hg1
      have q1 : ((str s1A).toList == [110, 111, 116, 32, 97, 32, 61, 32, 98, 32, 111, 114, 32, 99, 32, 60, 32, 51]) = true := by rw [toList_bts, bts_str]; kernel_rfl
      obtain ⟨y0, y1, y2, y3⟩ := HY_21.out.cells
      go_wp2_with fail
      refine (expr_any yA aw_n2 ay cy _ HV12_21.out HY_21.out.2).mono ?_
      rintro e w22 ⟨he, hb⟩
      rw [aw_e2] at he
      subst he
      have HX_22 := Lib.hid (HX_21.out.next hb)
      have HY_22 := Lib.hid (HY_21.out.next hb)
      have HZ_22 := Lib.hid (HZ_21.out.next hb)
      have HRL_22 := Lib.hid (HRL_21.out.next hb)
      have HB_22 := Lib.hid (bel_call HB_21.out hb)
      have HV12_22 := Lib.hid (HV12_21.out.next hb)
      clear hb y0 y1 y2 y3 HX_21 HY_21 HZ_21 HRL_21 HB_21 HV12_21
      have q2 : ((str s2A).toList == [40, 97, 32, 43, 32, 49, 41, 32, 42, 32, 40, 98, 32, 45, 32, 40, 99, 32, 45, 32, 45, 50, 41, 41]) = true := by rw [toList_bts, bts_str]; kernel_rfl
      obtain ⟨z0, z1, z2, z3⟩ := HZ_22.out.cells
      obtain ⟨x0, x1, x2, x3⟩ := HX_22.out.cells
      go_wp2_with fail
      refine (same_any _ xA xA (Nat.le_refl _) A11 ax c11 cx _ HZ_22.out.2 HX_22.out.2).mono ?_
      rintro e w23 ⟨he, hb⟩
      rw [aw_s.1] at he
      subst he
      have HX_23 := Lib.hid (HX_22.out.next hb)
      have HY_23 := Lib.hid (HY_22.out.next hb)
      have HZ_23 := Lib.hid (HZ_22.out.next hb)
      have HRL_23 := Lib.hid (HRL_22.out.next hb)
      have HB_23 := Lib.hid (bel_call HB_22.out hb)
      have HV12_23 := Lib.hid (HV12_22.out.next hb)
      clear hb z0 z1 z2 z3 x0 x1 x2 x3 HX_22 HY_22 HZ_22 HRL_22 HB_22 HV12_22
      obtain ⟨x0, x1, x2, x3⟩ := HX_23.out.cells
      obtain ⟨y0, y1, y2, y3⟩ := HY_23.out.cells
      go_wp2_with fail
      refine (same_any _ xA yA (Nat.le_refl _) ax ay cx cy _ HX_23.out.2 HY_23.out.2).mono ?_
      rintro e w24 ⟨he, hb⟩
      rw [aw_s.2] at he
      subst he
      have HX_24 := Lib.hid (HX_23.out.next hb)
      have HY_24 := Lib.hid (HY_23.out.next hb)
      have HZ_24 := Lib.hid (HZ_23.out.next hb)
      have HRL_24 := Lib.hid (HRL_23.out.next hb)
      have HB_24 := Lib.hid (bel_call HB_23.out hb)
      have HV12_24 := Lib.hid (HV12_23.out.next hb)
      clear hb x0 x1 x2 x3 y0 y1 y2 y3 HX_23 HY_23 HZ_23 HRL_23 HB_23 HV12_23
      go_wp2_with fail
      refine (formatR_any lA _ _ HRL_24.out aw_n3 HV12_24.out).mono ?_
      rintro e w25 ⟨he, hb⟩
      rw [aw_f] at he
      subst he
      have HX_25 := Lib.hid (HX_24.out.next hb)
      have HY_25 := Lib.hid (HY_24.out.next hb)
      have HZ_25 := Lib.hid (HZ_24.out.next hb)
      have HRL_25 := Lib.hid (HRL_24.out.next hb)
      have HB_25 := Lib.hid (bel_call HB_24.out hb)
      have HV12_25 := Lib.hid (HV12_24.out.next hb)
      clear hb  HX_24 HY_24 HZ_24 HRL_24 HB_24 HV12_24
      have q3 : ((str fA).toList == [103, 114, 97, 100, 101, 32, 49, 32, 119, 104, 101, 110, 32, 107, 110, 111, 116, 115, 32, 60, 61, 32, 50, 32, 97, 110, 100, 32, 119, 97, 110, 101, 32, 61, 32, 48, 59, 10, 103, 114, 97, 100, 101, 32, 50, 32, 119, 104, 101, 110, 32, 110, 111, 116, 32, 48, 32, 60, 32, 114, 111, 116, 59, 10]) = true := by rw [toList_bts, bts_str]; kernel_rfl
      go_wp2_with fail
      refine (xv_any andAw _).mono ?_
      rintro e w26 ⟨he, hb⟩
      subst he
      have HX_26 := Lib.hid (HX_25.out.next hb)
      have HY_26 := Lib.hid (HY_25.out.next hb)
      have HZ_26 := Lib.hid (HZ_25.out.next hb)
      have HRL_26 := Lib.hid (HRL_25.out.next hb)
      have HB_26 := Lib.hid (bel_call HB_25.out hb)
      have HV12_26 := Lib.hid (HV12_25.out.next hb)
      clear hb  HX_25 HY_25 HZ_25 HRL_25 HB_25 HV12_25
      go_wp2_with fail
      refine (expr_any (vE andAw) aw_n4 none 0 _ HV12_26.out (RdFo.none_ _ _)).mono ?_
      rintro e w27 ⟨he, hb⟩
      rw [show exprP (vE andAw) = [] from aw_e3] at he
      subst he
      have HX_27 := Lib.hid (HX_26.out.next hb)
      have HY_27 := Lib.hid (HY_26.out.next hb)
      have HZ_27 := Lib.hid (HZ_26.out.next hb)
      have HRL_27 := Lib.hid (HRL_26.out.next hb)
      have HB_27 := Lib.hid (bel_call HB_26.out hb)
      have HV12_27 := Lib.hid (HV12_26.out.next hb)
      clear hb  HX_26 HY_26 HZ_26 HRL_26 HB_26 HV12_26
      have hem : (str ([] : List UInt8)).toList.isEmpty = true := by rw [toList_bts, bts_str]; rfl
      go_wp2_with fail
      go_ret
      exact ⟨rfl, HB_27.out⟩

end Go.Proofs.YtkalkglllgebkaaDoor
