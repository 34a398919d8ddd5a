/-
  LexerPrints: the reference's Print and Same, great, and the walk.
-/
import Derived.Test.YtbepjalhbmofjaaLexLaw3
namespace Go.Proofs.Ytbepjalhbmofjaa
open Go.RowKit Saw

def greatP (l : List Lx) : Bool := l.any (fun x => decide (200 < x.text.length)) || decide (60 < l.length)

set_option maxHeartbeats 400000 in
theorem great_any (A : Option Addr) (n c : Nat) (l : List Lx) (w : World) (h : RdLx w (.slice A n c) l) (hx : ∀ x ∈ l, x.text.length ≤ 9223372036854775807) :
    Calls Try.prog 14 #[.slice A n c] w fun e w' => e = .returned (.bool (greatP l)) ∧ w = w' := by
  obtain ⟨_, _, he, hc, hm⟩ := h.form
  obtain rfl : n = l.length := by injection he
  clear he
  unfold maxLen at hm
  have H := Lib.hid h
  have HXS := Lib.hid hx
  clear h hx
  obtain ⟨g, hg⟩ : ∃ g, greatP l = g := ⟨_, rfl⟩
  rw [hg]
  have HG := Lib.hid hg
  clear hg
  go_enter Try.func14, Try.ntmps14
  go_wp2_with fail
  go_loop [3] (fun i => ∃ k : Nat, k ≤ l.length ∧ i = .int .i64 k ∧ ∀ x ∈ l.take k, ¬ 200 < x.text.length) (fun i => l.length - (intOf i).toNat)
  case atStart => exact ⟨0, by omega, rfl, by simp⟩
  case round =>
    obtain ⟨k, hk, rfl, hr⟩ := hrel
    have HR := Lib.hid hr
    clear hr
    by_cases hlt : k < l.length
    · obtain ⟨x, hx⟩ : ∃ x, l[k]? = some x := ⟨_, List.getElem?_eq_getElem hlt⟩
      obtain ⟨b, off, rfl, hb1, q0, q1, q2, q3⟩ := rdlx_at H.out hx
      have hxs := HXS.out x (List.mem_of_getElem? hx)
      have hsz : (str x.text).size = x.text.length := size_str _
      obtain ⟨t, ht⟩ : ∃ t, str x.text = t := ⟨_, rfl⟩
      rw [ht] at hsz q1
      have hts : t.size ≤ 9223372036854775807 := by omega
      have HSZ := Lib.hid hsz
      have HX := Lib.hid hx
      clear hx hsz ht hxs
      by_cases h2 : 200 < t.size
      · go_wp2_with fail
        go_ret
        refine ⟨ret_bool ?_, rfl⟩
        rw [← HG.out, greatP, List.any_eq_true.2 ⟨x, List.mem_of_getElem? HX.out, by rw [← HSZ.out]; simpa using h2⟩]
        rfl
      · go_wp2_with fail
        refine ⟨⟨k + 1, by omega, by go_num, ?_⟩, by simp [intOf]; omega⟩
        intro y hy
        rw [List.take_add_one, HX.out, Option.toList_some, List.mem_append, List.mem_singleton] at hy
        rcases hy with hy | rfl
        · exact HR.out y hy
        · rw [← HSZ.out]; exact h2
    · have hgl : greatP l = decide (60 < l.length) := by
        have h := HR.out
        rw [List.take_of_length_le (by omega)] at h
        rw [greatP, List.any_eq_false.2 (by intro x hx; simpa using h x hx), Bool.false_or]
      go_wp2_with fail
      go_ret
      refine ⟨ret_bool ?_, rfl⟩
      rw [← HG.out, hgl]
      rw [Bool.eq_iff_iff]; simp; omega

theorem join_snoc (ts : List (List UInt8)) (t : List UInt8) : Lib.join (ts ++ [t]) [32] = if ts = [] then t else Lib.join ts [32] ++ [32] ++ t := by
  cases ts with
  | nil => rw [if_pos rfl, List.nil_append, Lib.join_one]
  | cons x r =>
    rw [if_neg (by simp), List.cons_append, Lib.join_cons, Lib.join_cons]
    simp [Lib.joinTail]

theorem printed_le (l : List Lx) (hx : ∀ x ∈ l, x.text.length ≤ 200) : (Lib.join (texts l) [32]).length ≤ l.length * 201 := by
  have h1 := join_len (texts l)
  have h2 := texts_len l
  have h3 : ∀ r : List Lx, (∀ x ∈ r, x.text.length ≤ 200) → (texts r).flatten.length ≤ r.length * 200 := by
    intro r
    induction r with
    | nil => intro _; simp [texts]
    | cons y q ih =>
      intro h
      have hi := ih (fun x hx => h x (by simp [hx]))
      have hy := h y (by simp)
      unfold texts at hi ⊢
      rw [List.filter_cons]
      split
      · simp only [List.map_cons, List.flatten_cons, List.length_append, List.length_cons]
        omega
      · simp only [List.length_cons]
        omega
  have := h3 l hx
  omega

set_option maxHeartbeats 400000 in
theorem refPrint_any (A : Option Addr) (n c : Nat) (l : List Lx) (w : World) (h : RdLx w (.slice A n c) l) (hx : ∀ x ∈ l, x.text.length ≤ 200) (hn : l.length ≤ 60) :
    Calls Try.prog 16 #[.slice A n c] w fun e w' => e = .returned (.string (str (printP l))) ∧ w = w' := by
  obtain ⟨_, _, he, hc, hm⟩ := h.form
  obtain rfl : n = l.length := by injection he
  clear he
  unfold maxLen at hm
  have H := Lib.hid h
  have HXS := Lib.hid hx
  clear h hx
  go_enter Try.func16, Try.ntmps16
  go_wp2_with fail
  go_loop [3, 4, 5] (fun o f i => ∃ (k : Nat) (t : ByteArray), k ≤ l.length ∧ i = .int .i64 k ∧ o = .string t ∧ bts t = Lib.join (texts (l.take k)) [32] ∧ f = .bool (!decide (texts (l.take k) = []))) (fun _ _ i => l.length - (intOf i).toNat)
  case atStart => exact ⟨0, ⟨#[]⟩, by omega, rfl, rfl, rfl, rfl⟩
  case round =>
    obtain ⟨k, t, hk, rfl, rfl, ht, rfl⟩ := hrel
    have HT := Lib.hid ht
    have htz : t.size ≤ 60 * 201 := by
      rw [size_bts, ht]
      have := printed_le (l.take k) (fun x hx => HXS.out x (List.mem_of_mem_take hx))
      rw [List.length_take] at this
      omega
    clear ht
    by_cases hlt : k < l.length
    · obtain ⟨x, hx⟩ : ∃ x, l[k]? = some x := ⟨_, List.getElem?_eq_getElem hlt⟩
      obtain ⟨b, off, rfl, hb1, q0, q1, q2, q3⟩ := rdlx_at H.out hx
      have hxs := HXS.out x (List.mem_of_getElem? hx)
      have hsz : (str x.text).size = x.text.length := size_str _
      have hbx := bts_str x.text
      obtain ⟨y, hy⟩ : ∃ y, str x.text = y := ⟨_, rfl⟩
      rw [hy] at hsz q1 hbx
      have hts : y.size ≤ 200 := by omega
      have htx : texts (l.take (k + 1)) = texts (l.take k) ++ (if (x.kind != 0) = true then [x.text] else []) := by
        rw [List.take_add_one, hx, Option.toList_some, texts_snoc]
      have HTX := Lib.hid htx
      have HBX := Lib.hid hbx
      clear hx hsz hy hxs htx hbx
      cases hk0 : (x.kind == 0)
      · have hk1 : (x.kind != 0) = true := by simpa using hk0
        obtain ⟨f, hf⟩ : ∃ f, decide (texts (l.take k) = []) = f := ⟨_, rfl⟩
        rw [hf]
        have HF := Lib.hid hf
        clear hf
        cases f
        · go_wp2_with fail
          refine ⟨⟨k + 1, t ++ ⟨#[32]⟩ ++ y, by omega, by go_num, rfl, ?_, ?_⟩, by simp [intOf]; omega⟩
          · rw [HTX.out, if_pos hk1, join_snoc, if_neg (by simpa using HF.out), bts_app, bts_app, HT.out, HBX.out]
            rfl
          · rw [HTX.out, if_pos hk1]
            simp
        · go_wp2_with fail
          refine ⟨⟨k + 1, t ++ y, by omega, by go_num, rfl, ?_, ?_⟩, by simp [intOf]; omega⟩
          · have h0 : texts (l.take k) = [] := by simpa using HF.out
            rw [HTX.out, if_pos hk1, join_snoc, if_pos h0, bts_app, HT.out, HBX.out, h0]
            rfl
          · rw [HTX.out, if_pos hk1]
            simp
      · have hk1 : ¬ (x.kind != 0) = true := by simpa using hk0
        go_wp2_with fail
        refine ⟨⟨k + 1, t, by omega, by go_num, rfl, ?_, ?_⟩, by simp [intOf]; omega⟩
        · rw [HTX.out, if_neg hk1, List.append_nil]
          exact HT.out
        · rw [HTX.out, if_neg hk1, List.append_nil]
    · have hfin : t = str (printP l) := by
        have h := HT.out
        rw [List.take_of_length_le (by omega)] at h
        rw [printP, ← h, str_bts]
      have HFIN := Lib.hid hfin
      clear hfin
      go_wp2_with fail
      go_ret
      exact ⟨by rw [← HFIN.out]; rfl, rfl⟩

set_option maxRecDepth 100000 in
set_option maxHeartbeats 1000000 in
theorem refSame_any (A A' : Option Addr) (n n' c c' : Nat) (l l' : List Lx) (w : World) (h : RdLx w (.slice A n c) l) (h' : RdLx w (.slice A' n' c') l') :
    Calls Try.prog 18 #[.slice A n c, .slice A' n' c'] w fun e w' => e = .returned (.bool (sameP l l')) ∧ ∃ k, w' = w.drewN k := by
  obtain ⟨_, _, he, hc, hm⟩ := h.form
  obtain ⟨_, _, he', hc', hm'⟩ := h'.form
  obtain rfl : n = l.length := by injection he
  obtain rfl : n' = l'.length := by injection he'
  clear he he'
  unfold maxLen at hm hm'
  have H := Lib.hid h
  have H' := Lib.hid h'
  clear h h'
  by_cases hln : l.length = l'.length
  · have hb : ((l.length : Int) != (l'.length : Int)) = false := by rw [bne_eq_false_iff_eq]; omega
    have hle : l.length ≤ l'.length := by omega
    have hle' : l'.length ≤ l.length := by omega
    have HLN := Lib.hid hln
    clear hln
    go_enter Try.func18, Try.ntmps18
    go_wp2_with fail
    go_loopw [5] (fun i wr => ∃ k m : Nat, k ≤ l.length ∧ i = .int .i64 k ∧ wr = w.drewN m ∧ sameP (l.drop k) (l'.drop k) = sameP l l') (fun i _ => l.length - (intOf i).toNat)
    case atStart => exact ⟨0, 0, by omega, rfl, rfl, by simp⟩
    case round =>
      obtain ⟨k, m, hk, rfl, rfl, hr⟩ := hrel
      have HR := Lib.hid hr
      clear hr
      by_cases hlt : k < l.length
      · obtain ⟨x, hx⟩ : ∃ x, l[k]? = some x := ⟨_, List.getElem?_eq_getElem hlt⟩
        obtain ⟨y, hy⟩ : ∃ y, l'[k]? = some y := ⟨_, List.getElem?_eq_getElem (by omega)⟩
        obtain ⟨b, off, rfl, _, q0, q1, q2, q3⟩ := H.out.at_ hx
        obtain ⟨b', off', rfl, _, r0, r1, r2, r3⟩ := H'.out.at_ hy
        have HS := Lib.hid (same_step l l' k x y hx hy)
        clear hx hy
        have hlt' : k < l'.length := by omega
        have e1 : ((str x.text).toList == (str y.text).toList) = (x.text == y.text) := by rw [toList_bts, toList_bts, bts_str, bts_str]
        cases h1 : (x.kind == y.kind)
        · have g1 : (x.kind != y.kind) = true := by simpa using h1
          go_wp2_with fail
          go_quiet (fail)
          rw [World.drewN_drewN]
          go_wp2_with fail
          go_ret
          exact ⟨ret_bool (by rw [← HR.out, HS.out, sameLx, h1]; rfl), m + nq, rfl⟩
        · have g1 : (x.kind != y.kind) = false := by simpa using h1
          cases h2 : (x.text == y.text)
          · rw [h2] at e1
            go_wp2_with fail
            go_quiet (fail)
            rw [World.drewN_drewN]
            go_wp2_with fail
            go_ret
            exact ⟨ret_bool (by rw [← HR.out, HS.out, sameLx, h1, h2]; rfl), m + nq, rfl⟩
          · rw [h2] at e1
            cases h3 : (x.num == y.num)
            · have g3 : (x.num != y.num) = true := by simpa using h3
              go_wp2_with fail
              go_quiet (fail)
              rw [World.drewN_drewN]
              go_wp2_with fail
              go_ret
              exact ⟨ret_bool (by rw [← HR.out, HS.out, sameLx, h1, h2, h3]; rfl), m + nq, rfl⟩
            · have g3 : (x.num != y.num) = false := by simpa using h3
              go_wp2_with fail
              go_quiet (fail)
              rw [World.drewN_drewN]
              go_wp2_with fail
              exact ⟨⟨k + 1, m + nq, by omega, by go_num, rfl, by rw [← HR.out, HS.out, sameLx, h1, h2, h3]; simp⟩, by simp [intOf]; omega⟩
      · go_wp2_with fail
        go_ret
        refine ⟨ret_bool ?_, m, rfl⟩
        rw [← HR.out, List.drop_eq_nil_of_le (by omega), List.drop_eq_nil_of_le (by omega)]
        rfl
  · have hb : ((l.length : Int) != (l'.length : Int)) = true := by rw [bne_iff_ne]; omega
    go_enter Try.func18, Try.ntmps18
    go_wp2_with fail
    go_ret
    refine ⟨ret_bool ?_, 0, rfl⟩
    cases hs : sameP l l'
    · rfl
    · exact absurd (same_len l l' hs) hln

end Go.Proofs.Ytbepjalhbmofjaa
