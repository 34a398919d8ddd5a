/-
  The contract of wood.Parse.
-/
import Derived.Test.YtadflenmdfcflaaDoorWoodH
import Derived.Test.YtadflenmdfcflaaDoorPlainB
namespace Saw
/-- The catalog that a text describes, or an error and its offset. -/
def parseSp (l : List UInt8) : List Sp × Int × Int :=
  if (scanP l).2.1 ≠ 0 then ([], (scanP l).2.1, (scanP l).2.2)
  else if (parseAll (scanP l).1 (scanP l).1.length 0 []).2.1 ≠ 0 then ([], (parseAll (scanP l).1 (scanP l).1.length 0 []).2.1, (parseAll (scanP l).1 (scanP l).1.length 0 []).2.2)
  else ((parseAll (scanP l).1 (scanP l).1.length 0 []).1, 0, 0)
theorem ends_of {xs : List Lx} {p : Int} (h : ∀ x ∈ xs, x.kind ≠ 0) : LxEnds (xs ++ [lxEnd p]) := by
  intro i x hx hk
  have hi := (List.getElem?_eq_some_iff.1 hx).1
  rw [List.length_append, List.length_singleton] at hi ⊢
  by_cases h1 : i < xs.length
  · omega
  · have : i = xs.length := by omega
    subst this
    rw [List.getElem?_append_right (Nat.le_refl _), Nat.sub_self] at hx
    injection hx with hx
    subst hx
    exact absurd rfl hk
end Saw
namespace Go.Proofs.YtadflenmdfcflaaDoor
open Go.RowKit Saw

def ParsePost (r : List Sp × Int × Int) (w : World) (e : Ending) (w' : World) : Prop :=
  ∃ v, e = .returned (.tuple #[v, .int .i64 r.2.1, .int .i64 r.2.2]) ∧ OwnsSp w' w.heap.size v r.1 ∧ Below w.heap.size w w'

theorem own_base {w : World} {base base' : Nat} {v : Value} {l : List Sp} (h : OwnsSp w base v l) (hb : base' ≤ base) : OwnsSp w base' v l := by
  refine ⟨h.1, ?_⟩
  rcases h.2 with hn | ⟨g, cap, cur, rfl, hbg, hgg, rest⟩
  · exact .inl hn
  · exact .inr ⟨g, cap, cur, rfl, by omega, hgg, rest⟩

set_option maxRecDepth 100000 in
set_option maxHeartbeats 400000 in
theorem parse_any (s : ByteArray) (w : World) (hs : s.size ≤ 9223372036854775807) (hwd : w.rangeAt 0 0 wordCells) (hg0 : 0 < w.heap.size) :
    Calls Tryd.prog 24 #[.string s] w (ParsePost (parseSp (bts s)) w) := by
  obtain ⟨r, hr⟩ : ∃ r, parseSp (bts s) = r := ⟨_, rfl⟩
  rw [hr]
  have HR := Lib.hid hr
  have HWD := Lib.hid hwd
  clear hr hwd
  go_enter Tryd.func24, Tryd.ntmps24
  go_wp2_with fail
  refine (scan_any s _ hs).mono ?_
  rintro e w1 ⟨v, he, ho, hb⟩
  obtain ⟨xs, er, at_, hsc⟩ : ∃ xs er at_, scanP (bts s) = (xs, er, at_) := ⟨_, _, _, rfl⟩
  rw [hsc] at he ho
  subst he
  have HB := Lib.hid hb
  have hsz := hb.size
  clear hb
  by_cases her : er = 0
  · subst her
    have hgood := scanP_good (bts s) (by rw [hsc])
    rw [hsc] at hgood
    obtain ⟨_, _, ⟨xs0, hxs0, hk0⟩, hlen, htx⟩ := hgood
    simp only at hxs0 hlen htx
    have hrd : Rd w1 w1.heap.size 4 v xs.length (lxsCells xs) := Rd.of_own ho
    have hends : LxEnds xs := by rw [hxs0]; exact ends_of hk0
    have hpos : 0 < xs.length := by rw [hxs0, List.length_append, List.length_singleton]; omega
    obtain ⟨_, _, A0, cc, rfl, _, _⟩ := id hrd
    have HRD := Lib.hid hrd
    have HENDS := Lib.hid hends
    have HTX := Lib.hid htx
    have HSC := Lib.hid hsc
    clear hrd hends htx hsc ho hxs0 hk0
    go_wp2_with fail
    have hrdr : IsRdr (w1.alloc (.cells #[.slice A0 xs.length cc, .int .i64 0, .slice none 0 0] 68)) w1.heap.size (.slice A0 xs.length cc) 0 (.slice none 0 0) := heap_alloc_last w1 _
    refine (all_any _ w1.heap.size (.slice A0 xs.length cc) xs hrdr (HRD.out.below ((Below.refl _ _).alloc (Nat.le_refl _) _)) hpos (by omega) HENDS.out (fun x hx => Nat.le_trans (HTX.out x hx) (by omega)) (rangeAt_alloc (by omega) (rangeAt_below HB.out hg0 HWD.out) _) (by omega)).mono ?_
    rintro e w2 ⟨he, p, fv, hr2, ho2, hg2⟩
    obtain ⟨l, e2, a2, hpa⟩ : ∃ l e2 a2, parseAll xs xs.length 0 [] = (l, e2, a2) := ⟨_, _, _, rfl⟩
    rw [hpa] at he ho2
    subst he
    rw [World.size_alloc] at ho2
    have hb2 : Below w.heap.size w w2 := below_of_gb (HB.out.alloc hsz _) hg2 (by rw [World.size_alloc]; omega) hsz
    obtain ⟨_, _, c2, _, _, _⟩ := hr2.cells
    have HB2 := Lib.hid hb2
    have HO2 := Lib.hid (own_base ho2 (show w.heap.size ≤ w1.heap.size + 1 by omega))
    have HPA := Lib.hid hpa
    clear hrdr hr2 ho2 hg2 hb2 hpa
    by_cases he2 : e2 = 0
    · subst he2
      have hrz : r = (l, 0, 0) := by rw [← HR.out, parseSp, HSC.out]; simp [HPA.out]
      subst hrz
      go_wp2_with fail
      go_ret3
      exact ⟨_, rfl, HO2.out, HB2.out⟩
    · have heb : (e2 != 0) = true := by rw [bne_iff_ne]; exact he2
      have hrz : r = ([], e2, a2) := by rw [← HR.out, parseSp, HSC.out]; simp [HPA.out, he2]
      subst hrz
      clear he2
      go_wp2_with fail
      go_ret3
      exact ⟨_, rfl, World.ownsRow_nil _ _ _ _, HB2.out⟩
  · have heb : (er != 0) = true := by rw [bne_iff_ne]; exact her
    have hrz : r = ([], er, at_) := by rw [← HR.out, parseSp, hsc]; simp [her]
    subst hrz
    clear her hsc ho
    go_wp2_with fail
    go_ret3
    exact ⟨_, rfl, World.ownsRow_nil _ _ _ _, HB.out⟩

end Go.Proofs.YtadflenmdfcflaaDoor
