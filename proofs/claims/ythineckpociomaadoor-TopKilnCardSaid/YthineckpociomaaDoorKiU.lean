/-
  Plain: what TopKiln asks of a run, and of a shorter one.
-/
import Derived.Test.YthineckpociomaaDoorKiS
namespace Saw

structure DrOk (l : List Bd) (s : Sp) (sc : Sc) (t : Int) : Prop where
  ss : SsOk sc s
  len : 0 < l.length ∧ l.length ≤ 1024
  its : ∀ x ∈ l.map itemP, ClOk x.2 ∧ 1 ≤ x.1 ∧ x.1 ≤ 600
  ticks : 0 ≤ t ∧ t ≤ 20000
theorem dry_ok {l : List Bd} {s : Sp} {sc : Sc} {fs : List Fa} {t : Int} (h : dryE l s sc fs t = 0) (hl : l.length ≤ 1024) : DrOk l s sc t := by
  unfold dryE at h
  split at h
  · rename_i h1; exact absurd h h1
  · rename_i h1
    obtain ⟨c1, c2, c3, c4⟩ := checkCh_ok (by omega : checkCh l s sc = 0)
    split at h
    · cases h
    · rename_i h2
      refine ⟨ssOk_of c3 c4, ⟨c1, hl⟩, ?_, by omega, by omega⟩
      intro x hx
      obtain ⟨b, hb, rfl⟩ := List.mem_map.1 hx
      have h9 := checkBd_ok (firstBd_all c2 b hb)
      exact ⟨h9.2.2.1, h9.2.2.2.1, h9.2.2.2.2⟩
theorem dry_fewer {l : List Bd} {s : Sp} {sc : Sc} {fs : List Fa} {t f : Int} (h : dryE l s sc fs t = 0) (h0 : 0 ≤ f) (h1 : f ≤ t) : dryE l s sc fs f = 0 := by
  unfold dryE at h ⊢
  split at h
  · rename_i h1; exact absurd h h1
  · rename_i h1
    rw [if_neg h1]
    split at h
    · cases h
    · rename_i h2
      rw [if_neg (by omega)]
      exact h
/-- What the law checks of a run. -/
structure RunOk (l : List Bd) (s : Sp) (M t : Int) (F : Ru) : Prop where
  ticks : 0 ≤ F.k.ticks ∧ F.k.ticks ≤ t
  temp : F.hot.temp ≤ s.temp
  dep : F.hot.dep ≤ s.depress
  grad : F.grad ≤ M
  len : F.k.items.length = l.length
  at_ : ∀ (i : Nat) (b : Bd), l[i]? = some b → ∃ y, F.k.items[i]? = some (thickP b, y) ∧ b.stress ≤ y.stress ∧ gradP y ≤ M
theorem run_ok {l : List Bd} {s : Sp} {sc : Sc} {fs : List Fa} {t M : Int} (h : DrOk l s sc t) (hm : s.grad ≤ M) (hg : ∀ b ∈ l, gradP b.cl ≤ M) : RunOk l s M t (runP sc s fs t.toNat (l.map itemP)) := by
  have h1 := start_ok (its := l.map itemP) h.ss hm h.its (by rw [List.length_map]; exact h.len) (fun x hx => by
    obtain ⟨b, hb, rfl⟩ := List.mem_map.1 hx
    exact hg b hb)
  have h2 := runGo_ok (fs := fs) h.ss hm t.toNat 0 _ h1
  have h3 := runGo_le sc s fs t.toNat 0 (startR (l.map itemP))
  have h4 : (startR (l.map itemP)).k.ticks = 0 := rfl
  have h5 := h3.1.ticks
  have h6 := h3.2
  have h7 := h.ticks
  rw [h4] at h5 h6
  refine ⟨⟨h5, by show (runGo sc s fs t.toNat 0 _).k.ticks ≤ t; omega⟩, h2.temp, h2.dep, h2.grad, by have h9 := h2.len; rw [List.length_map] at h9; exact h9, ?_⟩
  intro i b hb
  obtain ⟨y, g1, _, g3, g4⟩ := h2.at_ i (itemP b) (by rw [List.getElem?_map, hb]; rfl)
  exact ⟨y, g1, g3, g4⟩
theorem run_less (sc : Sc) (s : Sp) (fs : List Fa) (its : List (Int × Cl)) {f t : Int} (h0 : 0 ≤ f) (h1 : f ≤ t) : RuLe (runP sc s fs f.toNat its) (runP sc s fs t.toNat its) ∧ min f (runP sc s fs t.toNat its).k.ticks = (runP sc s fs f.toNat its).k.ticks := by
  obtain ⟨h2, h3⟩ := runGo_less sc s fs f.toNat t.toNat 0 (startR its) (by omega)
  refine ⟨h2, ?_⟩
  have h4 : (startR its).k.ticks = 0 := rfl
  rw [h4] at h3
  unfold runP
  omega
end Saw
