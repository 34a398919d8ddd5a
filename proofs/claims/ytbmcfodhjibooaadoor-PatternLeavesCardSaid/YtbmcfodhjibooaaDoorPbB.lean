/-
  The reference's deep and Depth (package sawmillref21).
-/
import Derived.Test.YtbmcfodhjibooaaDoorPaP
import Derived.Test.YtbmcfodhjibooaaDoorPaG
import Derived.Test.YtbmcfodhjibooaaDoorPaI
namespace Saw
def deepGo2 (a : Int) : Option (List Nd × Int) → Option (List Nd × Int)
  | none => none
  | some (ns2, b) => some (ns2, 1 + max a b)
def deepGo (F : List Nd → Option (List Nd × Int)) : Option (List Nd × Int) → Option (List Nd × Int)
  | none => none
  | some (ns1, a) => deepGo2 a (F ns1)
theorem deepR_rip {f : Nat} {n : Nd} {ns : List Nd} (h : ¬ (n.kind < 0 ∨ 3 < n.kind)) (h2 : ¬ n.kind < 2) : deepR (f + 1) (n :: ns) = deepGo (fun m => deepR f m) (deepR f ns) := by
  rw [deepR, if_neg h, if_neg h2]
  cases deepR f ns with
  | none => rfl
  | some q =>
    obtain ⟨m1, a⟩ := q
    simp only [deepGo]
    cases deepR f m1 with
    | none => rfl
    | some q => rfl
theorem deep_len : ∀ (f : Nat) (ns ns1 : List Nd) (d : Int), deepR f ns = some (ns1, d) → 1 ≤ d ∧ d + ns1.length ≤ ns.length ∧ ns1 = ns.drop (ns.length - ns1.length)
  | 0, _, _, _, h => by rw [deepR] at h; cases h
  | f + 1, [], _, _, h => by rw [deepR] at h; cases h
  | f + 1, n :: ns, ns1, d, h => by
    rw [deepR] at h
    by_cases h0 : n.kind < 0 ∨ 3 < n.kind
    · rw [if_pos h0] at h; cases h
    · rw [if_neg h0] at h
      by_cases h2 : n.kind < 2
      · rw [if_pos h2] at h
        injection h with h
        injection h with h3 h4
        subst h3 h4
        refine ⟨by omega, by rw [List.length_cons]; omega, ?_⟩
        rw [List.length_cons, Nat.add_sub_cancel_left]
        rfl
      · rw [if_neg h2] at h
        cases h1 : deepR f ns with
        | none => rw [h1] at h; cases h
        | some q =>
          obtain ⟨m1, a⟩ := q
          rw [h1] at h
          simp only at h
          cases h3 : deepR f m1 with
          | none => rw [h3] at h; cases h
          | some q =>
            obtain ⟨m2, b⟩ := q
            rw [h3] at h
            injection h with h
            injection h with h4 h5
            subst h4 h5
            obtain ⟨a1, a2, a3⟩ := deep_len f ns m1 a h1
            obtain ⟨b1, b2, b3⟩ := deep_len f m1 m2 b h3
            refine ⟨by omega, by rw [List.length_cons]; omega, ?_⟩
            rw [List.length_cons]
            have e : ns.length + 1 - m2.length = (ns.length - m1.length) + (m1.length - m2.length) + 1 := by omega
            rw [e, List.drop_succ_cons, ← List.drop_drop, ← a3]
            exact b3
end Saw
namespace Go.Proofs.YtbmcfodhjibooaaDoor
open Go.RowKit Saw Go.Sort
def DeepPo (w : World) (n at_ : Nat) (q : Option (List Nd × Int)) (e : Ending) (w' : World) : Prop :=
  w' = w ∧ (q = none → e = .returned (.tuple #[.int .i64 at_, .int .i64 0])) ∧ ∀ m d, q = some (m, d) → e = .returned (.tuple #[.int .i64 ((n - m.length : Nat) : Int), .int .i64 d])
set_option maxRecDepth 100000 in
set_option maxHeartbeats 4000000 in
theorem deep_any (ns : List Nd) (nv : Value) (w : World) (B : Nat) (hns : RdNd w B nv ns) (hl : ns.length ≤ 100000) : ∀ (f at_ : Nat), (ns.drop at_).length < f → at_ ≤ ns.length →
    Calls Tryd.prog 50 #[nv, .int .i64 at_] w (DeepPo w ns.length at_ (deepR f (ns.drop at_))) := by
  obtain ⟨A, c, rfl, hc, hml⟩ := hns.form
  unfold maxLen at hml
  intro f
  induction f with
  | zero => intro at_ hf; exact absurd hf (Nat.not_lt_zero _)
  | succ f ih =>
    intro at_ hf hle
    obtain ⟨R, hR⟩ : ∃ R, deepR (f + 1) (ns.drop at_) = R := ⟨_, rfl⟩
    rw [hR]
    by_cases hlt : at_ < ns.length
    · obtain ⟨⟨k, p⟩, hn⟩ : ∃ n, ns[at_]? = some n := ⟨_, List.getElem?_eq_getElem hlt⟩
      have hdrop : ns.drop at_ = ⟨k, p⟩ :: ns.drop (at_ + 1) := by
        rw [List.drop_eq_getElem_cons hlt, (List.getElem?_eq_some_iff.1 hn).2]
      rw [hdrop, List.length_cons] at hf
      have HRIP := Lib.hid (fun (h1 : ¬ (k < 0 ∨ 3 < k)) (h2 : ¬ k < 2) => (show R = _ from hR.symm.trans ((congrArg (deepR (f + 1)) hdrop).trans (deepR_rip (f := f) (n := ⟨k, p⟩) (ns := ns.drop (at_ + 1)) h1 h2))))
      rw [hdrop, deepR] at hR
      obtain ⟨b, off, rfl, hb, d0, d1⟩ := hns.at_ hn
      simp only at d0 d1 hR
      have hd : ¬ ns.length ≤ at_ := by omega
      have HIH := Lib.hid ih
      have HF := Lib.hid hf
      have HNS := Lib.hid hns
      have HRR := Lib.hid hR
      clear ih hf hn hdrop hle hns hR
      by_cases k0 : k < 0
      · have HZ := Lib.hid (show R = none by rw [← HRR.out, if_pos (.inl k0)])
        go_enter Tryd.func50, Tryd.ntmps50
        go_wp2_with fail
        refine bodyPost_ret (v := .tuple #[.int .i64 at_, .int .i64 0]) (by simp [results, Tryd.results50, go_sem]) rfl ⟨rfl, fun _ => rfl, fun m d h => by rw [HZ.out] at h; cases h⟩
      by_cases k3 : 3 < k
      · have HZ := Lib.hid (show R = none by rw [← HRR.out, if_pos (.inr k3)])
        go_enter Tryd.func50, Tryd.ntmps50
        go_wp2_with fail
        refine bodyPost_ret (v := .tuple #[.int .i64 at_, .int .i64 0]) (by simp [results, Tryd.results50, go_sem]) rfl ⟨rfl, fun _ => rfl, fun m d h => by rw [HZ.out] at h; cases h⟩
      by_cases k2 : k < 2
      · have HZ := Lib.hid (show R = some (ns.drop (at_ + 1), 1) by rw [← HRR.out, if_neg (by omega), if_pos k2])
        go_enter Tryd.func50, Tryd.ntmps50
        go_wp2_with fail
        refine bodyPost_ret (v := .tuple #[.int .i64 (at_ + 1), .int .i64 1]) (by simp [results, Tryd.results50, go_sem]) rfl ⟨rfl, fun h => by (rw [HZ.out] at h; cases h), fun m d h => ?_⟩
        rw [HZ.out] at h
        injection h with h
        injection h with h1 h2
        subst h1 h2
        rw [List.length_drop, show ((ns.length - (ns.length - (at_ + 1)) : Nat) : Int) = at_ + 1 by omega]
      have HC := Lib.hid (HIH.out (at_ + 1) (by have := HF.out; omega) (by omega))
      obtain ⟨Q, hQ⟩ : ∃ Q, deepR f (ns.drop (at_ + 1)) = Q := ⟨_, rfl⟩
      rw [hQ] at HC
      have HQ := Lib.hid hQ
      have HR1 := Lib.hid (show R = deepGo (fun m => deepR f m) Q from (HRIP.out (by omega) k2).trans (by rw [hQ]))
      clear hQ HRR HRIP
      go_enter Tryd.func50, Tryd.ntmps50
      go_wp2_with fail
      refine HC.out.mono ?_
      rintro e w1 ⟨hw, h1, h2⟩
      subst hw
      cases Q with
      | none =>
        have HZ := Lib.hid (show R = none from HR1.out)
        have he := h1 rfl
        subst he
        clear h1 h2
        go_wp2_with fail
        refine bodyPost_ret (v := .tuple #[.int .i64 at_, .int .i64 0]) (by simp [results, Tryd.results50, go_sem]) rfl ⟨rfl, fun _ => rfl, fun m d h => by rw [HZ.out] at h; cases h⟩
      | some q =>
        obtain ⟨m1, a⟩ := q
        have he := h2 m1 a rfl
        subst he
        obtain ⟨a1, a2, a3⟩ := deep_len _ _ _ _ HQ.out
        rw [List.length_drop] at a2 a3
        rw [List.drop_drop] at a3
        obtain ⟨at2, hat2⟩ : ∃ at2, ns.length - m1.length = at2 := ⟨_, rfl⟩
        have hm1 : m1 = ns.drop at2 := by rw [← hat2]; rw [show at_ + 1 + (ns.length - (at_ + 1) - m1.length) = ns.length - m1.length by omega] at a3; exact a3
        have ha0 : (a == 0) = false := by rw [beq_eq_false_iff_ne]; omega
        have hle : a ≤ 100000 := by omega
        have HC2 := Lib.hid (HIH.out at2 (by rw [← hm1]; have := HF.out; rw [List.length_drop] at this; omega) (by omega))
        obtain ⟨Q2, hQ2⟩ : ∃ Q2, deepR f (ns.drop at2) = Q2 := ⟨_, rfl⟩
        rw [hQ2] at HC2
        have HQ2 := Lib.hid hQ2
        have HR2 := Lib.hid (show R = deepGo2 a Q2 by
            have h := HR1.out
            simp only [deepGo, hm1, hQ2] at h
            exact h)
        rw [hat2]
        have HA2 := Lib.hid hat2
        have HM1 := Lib.hid hm1
        have HAA := Lib.hid (And.intro a1 a2)
        clear h1 h2 a3 hQ2 HR1 hat2 hm1 a2
        go_wp2_with fail
        refine HC2.out.mono ?_
        rintro e w1 ⟨hw, h1, h2⟩
        subst hw
        cases Q2 with
        | none =>
          have HZ := Lib.hid (show R = none from HR2.out)
          have he := h1 rfl
          subst he
          clear h1 h2
          go_wp2_with fail
          refine bodyPost_ret (v := .tuple #[.int .i64 at_, .int .i64 0]) (by simp [results, Tryd.results50, go_sem]) rfl ⟨rfl, fun _ => rfl, fun m d h => by rw [HZ.out] at h; cases h⟩
        | some q =>
          obtain ⟨m2, b2⟩ := q
          have HZ := Lib.hid (show R = some (m2, 1 + max a b2) from HR2.out)
          have he := h2 m2 b2 rfl
          subst he
          obtain ⟨b1, b3, _⟩ := deep_len _ _ _ _ HQ2.out
          rw [List.length_drop] at b3
          have hb0 : (b2 == 0) = false := by rw [beq_eq_false_iff_ne]; omega
          have hbe : b2 ≤ 100000 := by omega
          clear h1 h2 b3
          obtain ⟨j, hj⟩ : ∃ j, ns.length - m2.length = j := ⟨_, rfl⟩
          have HJ := Lib.hid hj
          rw [hj]
          clear hj
          go_wp2_with fail
          all_goals
            first
              | (have hmx : max a b2 = a := by omega
                 refine bodyPost_ret (v := .tuple #[.int .i64 j, .int .i64 (1 + a)]) (by simp [results, Tryd.results50, go_sem]) rfl ⟨rfl, fun h => by (rw [HZ.out] at h; cases h), fun m d h => ?_⟩
                 rw [HZ.out] at h
                 injection h with h
                 injection h with h1 h2
                 subst h1 h2
                 rw [HJ.out, hmx])
              | (have hmx : max a b2 = b2 := by omega
                 refine bodyPost_ret (v := .tuple #[.int .i64 j, .int .i64 (1 + b2)]) (by simp [results, Tryd.results50, go_sem]) rfl ⟨rfl, fun h => by (rw [HZ.out] at h; cases h), fun m d h => ?_⟩
                 rw [HZ.out] at h
                 injection h with h
                 injection h with h1 h2
                 subst h1 h2
                 rw [HJ.out, hmx])
    · have h0 : at_ = ns.length := by omega
      have hz : R = none := by
        rw [← hR, show ns.drop at_ = [] by rw [h0]; exact List.drop_length, deepR]
      subst hz
      have hd : ns.length ≤ at_ := by omega
      clear ih hf hR h0 hle hlt
      go_enter Tryd.func50, Tryd.ntmps50
      go_wp2_with fail
      refine bodyPost_ret (v := .tuple #[.int .i64 at_, .int .i64 0]) (by simp [results, Tryd.results50, go_sem]) rfl ⟨rfl, fun _ => rfl, fun m d h => by cases h⟩

set_option maxRecDepth 100000 in
set_option maxHeartbeats 2000000 in
theorem rDepth_any (r : Rc) (ns : List Nd) (nv : Value) (w : World) (hns : RdNd w w.heap.size nv ns) (hl : ns.length ≤ 100000) :
    Calls Tryd.prog 22 #[.agg #[.int .i64 r.xa, .int .i64 r.xb, .int .i64 r.ya, .int .i64 r.yb, nv]] w (IntB (depthP ns) w) := by
  obtain ⟨A, c, rfl, hc, hml⟩ := hns.form
  unfold maxLen at hml
  obtain ⟨D, hD⟩ : ∃ D, depthP ns = D := ⟨_, rfl⟩
  rw [hD]
  have HNS := Lib.hid hns
  by_cases h127 : 127 < ns.length
  · have hz : D = 0 := by rw [← hD, depthP, if_pos h127]
    subst hz
    have hb : (127 : Int) < ns.length := by omega
    clear hns hD
    go_enter Tryd.func22, Tryd.ntmps22
    go_wp2_with fail
    go_ret
    exact ⟨rfl, by repeat (first | exact Below.refl _ _ | apply bel_alloc)⟩
  · have hd : depthL ns [1] 0 = D := by rw [← hD, depthP, if_neg h127]
    have HC := Lib.hid (fun (W : World) (h : RdNd W w.heap.size (.slice A ns.length c) ns) => deep_any ns _ W w.heap.size h hl (ns.length + 1) 0 (by simp) (by omega))
    rw [List.drop_zero] at HC
    obtain ⟨Q, hQ⟩ : ∃ Q, deepR (ns.length + 1) ns = Q := ⟨_, rfl⟩
    rw [hQ] at HC
    obtain ⟨q1, q2⟩ := deep_eq (ns.length + 1) ns (by omega)
    have HQ1 := Lib.hid q1
    have HQ2 := Lib.hid q2
    have HQ := Lib.hid hQ
    have HD := Lib.hid hd
    have hb : ¬ (127 : Int) < ns.length := by omega
    clear hns hD q1 q2 hQ hd
    go_enter Tryd.func22, Tryd.ntmps22
    go_wp2_with fail
    refine (HC.out _ (HNS.out.below (bel_alloc (Below.refl _ _)))).mono ?_
    rintro e w1 ⟨hw, h1, h2⟩
    subst hw
    cases Q with
    | none =>
      have he := h1 rfl
      subst he
      have hz : D = 0 := by rw [← HD.out]; exact HQ1.out HQ.out 1 [] 0
      subst hz
      clear h1 h2
      go_wp2_with fail
      all_goals
        go_ret
        exact ⟨rfl, by repeat (first | exact Below.refl _ _ | apply bel_alloc)⟩
    | some q =>
      obtain ⟨m, d⟩ := q
      have he := h2 m d rfl
      subst he
      obtain ⟨a1, a2, a3⟩ := deep_len _ _ _ _ HQ.out
      have hdd := (HQ2.out m d HQ.out).2.2 1 [] 0
      by_cases hm : m = []
      · subst hm
        have hz : D = d := by rw [← HD.out, hdd, depthL]; omega
        subst hz
        have HBE := Lib.hid (show Below w.heap.size w (w.alloc (.cells #[.int .i64 r.xa, .int .i64 r.xb, .int .i64 r.ya, .int .i64 r.yb, .slice A ns.length c] 28)) by repeat (first | exact Below.refl _ _ | apply bel_alloc))
        simp only [List.length_nil, Nat.sub_zero]
        clear h1 h2 a3 hdd
        go_wp2_with fail
        all_goals
          go_ret
          exact ⟨rfl, by repeat (first | exact Below.refl _ _ | apply bel_alloc)⟩
      · have hz : D = 0 := by
          rw [← HD.out, hdd]
          cases m with
          | nil => exact absurd rfl hm
          | cons a b => rw [depthL]
        subst hz
        have hml : 0 < m.length := by
          cases m with
          | nil => exact absurd rfl hm
          | cons a b => exact Nat.succ_pos _
        obtain ⟨j, hj⟩ : ∃ j, ns.length - m.length = j := ⟨_, rfl⟩
        have hjn : (((j : Nat) : Int) != (ns.length : Int)) = true := by rw [bne_iff_ne]; omega
        have hjn2 : ¬ j = ns.length := by omega
        rw [hj]
        clear h1 h2 a3 hdd hj hm a2
        go_wp2_with fail
        all_goals
          go_ret
          exact ⟨rfl, by repeat (first | exact Below.refl _ _ | apply bel_alloc)⟩
end Go.Proofs.YtbmcfodhjibooaaDoor
