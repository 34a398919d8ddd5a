/-
  The contract of bill.line.
-/
import Derived.Test.YtdbkdneolcgfjaaDoorBillD
import Derived.Test.YtdbkdneolcgfjaaDoorStrRow
import Derived.Test.YtdbkdneolcgfjaaDoorSbK
import Derived.Test.YtdbkdneolcgfjaaDoorCat
namespace Saw
theorem join_cons (x : List UInt8) (l : List (List UInt8)) : Go.Lib.join (x :: l) [32] = x ++ l.flatMap (fun y => 32 :: y) := by
  induction l generalizing x with
  | nil => simp [Go.Lib.join]
  | cons y r ih =>
    have : Go.Lib.join (x :: y :: r) [32] = x ++ 32 :: Go.Lib.join (y :: r) [32] := by simp [Go.Lib.join]
    rw [this, ih, List.flatMap_cons]
    simp
theorem line_join (wd : List UInt8) (ns : List Int) : Go.Lib.join (wd :: ns.map Go.Lib.itoa) [32] ++ [10] = lineP wd ns := by
  rw [join_cons, lineP, List.flatMap_map]
theorem line_len {wd : List UInt8} {ns : List Int} (h : ∀ n ∈ ns, -9223372036854775808 ≤ n ∧ n ≤ 9223372036854775807) : (lineP wd ns).length ≤ wd.length + ns.length * 22 + 1 := by
  have key : ∀ ns : List Int, (∀ n ∈ ns, -9223372036854775808 ≤ n ∧ n ≤ 9223372036854775807) → (ns.flatMap (fun n => 32 :: Go.Lib.itoa n)).length ≤ ns.length * 22 := by
    intro ns
    induction ns with
    | nil => intro _; simp
    | cons n r ih =>
      intro h
      have h1 := ih (fun m hm => h m (by simp [hm]))
      have h2 := h n (by simp)
      have h3 := Go.Lib.itoa_length_le n (by omega) (by omega)
      rw [List.flatMap_cons, List.length_append, List.length_cons, List.length_cons]
      omega
  have := key ns h
  rw [lineP, List.length_append, List.length_append, List.length_singleton]
  omega
end Saw
namespace Go.Proofs.YtdbkdneolcgfjaaDoor
open Go.RowKit Saw Go.Sort


set_option maxRecDepth 100000 in
set_option maxHeartbeats 400000 in
theorem line_item (wd : List UInt8) (ns : List Int) (v : Value) (w : World) (hwd : wd.length ≤ 1000000) (hrd : RdI w w.heap.size v ns) (hns : ∀ n ∈ ns, -9223372036854775808 ≤ n ∧ n ≤ 9223372036854775807) (hln : ns.length ≤ 10) (hp : Pow w) (hpg : 0 < w.heap.size) :
    Calls Tryd.prog 33 #[.int .i64 0, .string (str wd), v] w fun e w' => e = .returned (.string (str (lineP wd ns))) ∧ Below w.heap.size w w' := by
  obtain ⟨A, c, rfl, hc, hml⟩ := hrd.form
  unfold maxLen at hml
  have HRD := Lib.hid hrd
  have HNS := Lib.hid hns
  have HP := Lib.hid hp
  have HLL := Lib.hid (line_len (wd := wd) hns)
  have hwl : (wd : List UInt8).length ≤ 1000000 := hwd
  clear hrd hns hp
  have HB0 := Lib.hid ((Below.refl w.heap.size w).alloc (Nat.le_refl _) (.cells #[.string (str wd)] 9))
  have HO0 := Lib.hid (show OwnsStr (w.alloc (.cells #[.string (str wd)] 9)) w.heap.size (.slice (some ⟨w.heap.size, 0, none⟩) 1 1) [wd] from ownsRow_new (cs := [.string (str wd)]) (Nat.le_refl _) rfl (by decide))
  go_enter Tryd.func33, Tryd.ntmps33
  go_wp2_with fail
  go_loopw [7, 23] (fun wv i wr => ∃ k : Nat, k ≤ ns.length ∧ i = .int .i64 k ∧ OwnsStr wr w.heap.size wv (wd :: (ns.take k).map Lib.itoa) ∧ Below w.heap.size w wr) (fun _ i _ => ns.length - (intOf i).toNat)
  case atStart => exact ⟨0, by omega, rfl, HO0.out, HB0.out⟩
  case round =>
    obtain ⟨k, hk, rfl, hown, hb⟩ := hrel
    have HB := Lib.hid hb
    have hsz := hb.size
    have HOWN := Lib.hid hown
    clear hown
    by_cases hlt : k < ns.length
    · have hx : ns[k]? = some ns[k] := List.getElem?_eq_getElem hlt
      obtain ⟨n, hne⟩ : ∃ n, ns[k] = n := ⟨_, rfl⟩
      rw [hne] at hx
      obtain ⟨b, off, rfl, hbl, q0⟩ := RdI.at_ (HRD.out.below hb) hx
      have hnb := HNS.out n (List.mem_of_getElem? hx)
      have HT := Lib.hid (show wd :: (ns.take (k + 1)).map Lib.itoa = (wd :: (ns.take k).map Lib.itoa) ++ [Lib.itoa n] by rw [List.take_add_one, hx]; simp)
      have hlk : (wd :: (ns.take k).map Lib.itoa).length ≤ 100000 := by rw [List.length_cons, List.length_map, List.length_take]; omega
      clear hx hne hb
      go_wp2_with fail
      refine (itoa_any n _ hnb.1 hnb.2 (HP.out.below HB.out hpg)).mono ?_
      rintro e w2 ⟨rfl, hb2⟩
      have HB2 := Lib.hid (HB.out.trans (hb2.mono hsz))
      have hsz2 := HB2.out.size
      have HOWN2 := Lib.hid (show OwnsStr w2 w.heap.size u7 (wd :: (ns.take k).map Lib.itoa) from owns_below HOWN.out hb2)
      clear hb2
      go_wp2_with (at_builtin; refine append_str w2 rfl (.tmp 27) (.tmp 30) rfl w.heap.size u7 (wd :: (ns.take k).map Lib.itoa) rfl HOWN2.out hlk hsz2 (Lib.itoa n) _ rfl rfl ?_; intro v3 w3 hown3 hg3; have HOWN3 := Lib.hid hown3; have HG3 := Lib.hid hg3; clear hown3 hg3)
      exact ⟨⟨k + 1, by omega, by go_num, by rw [HT.out]; exact HOWN3.out, HB2.out.grown HG3.out hsz2 (fun g hg => (HOWN2.out.lt g hg).1)⟩, by simp [intOf]; omega⟩
    · have HT := Lib.hid (show ns.take k = ns from List.take_of_length_le (by omega))
      have HJL := Lib.hid (show (Lib.join (wd :: ns.map Lib.itoa) [32]).length ≤ 140737488355328 by have h1 := line_join wd ns; have h2 := congrArg List.length h1; rw [List.length_append, List.length_singleton] at h2; have := HLL.out; omega)
      clear hb
      go_wp2_with fail
      refine (join_any _ w.heap.size _ (wd :: ns.map Lib.itoa) (by have h9 := HOWN.out; rw [HT.out] at h9; exact h9) (by rw [List.length_cons, List.length_map]; omega) HJL.out).mono ?_
      rintro e w4 ⟨rfl, hb4⟩
      have HB4 := Lib.hid (HB.out.trans (hb4.mono hsz))
      have hss : (str (Lib.join (wd :: ns.map Lib.itoa) [32])).size ≤ 140737488355328 := by rw [size_str]; exact HJL.out
      clear hb4
      obtain ⟨jj, hjj⟩ : ∃ jj, Lib.join (wd :: ns.map Lib.itoa) [32] = jj := ⟨_, rfl⟩
      rw [hjj] at hss ⊢
      have HJJ := Lib.hid hjj
      clear hjj
      have q1 : ¬ 9223372036854775807 < (str jj).size + 1 := by omega
      go_wp2_with fail
      go_ret
      refine ⟨?_, HB4.out⟩
      show Ending.returned (.string (str jj ++ ⟨#[10]⟩)) = _
      rw [← line_join, HJJ.out, ← str_append]
      rfl


set_option maxRecDepth 100000 in
set_option maxHeartbeats 400000 in
theorem line_discount (ns : List Int) (v : Value) (w : World) (hrd : RdI w w.heap.size v ns) (hns : ∀ n ∈ ns, -9223372036854775808 ≤ n ∧ n ≤ 9223372036854775807) (hln : ns.length ≤ 10) (hp : Pow w) (hpg : 0 < w.heap.size) :
    Calls Tryd.prog 33 #[.int .i64 1, .string ⟨#[]⟩, v] w fun e w' => e = .returned (.string (str (lineP discountW ns))) ∧ Below w.heap.size w w' := by
  obtain ⟨A, c, rfl, hc, hml⟩ := hrd.form
  unfold maxLen at hml
  have HRD := Lib.hid hrd
  have HNS := Lib.hid hns
  have HP := Lib.hid hp
  have HLL := Lib.hid (line_len (wd := discountW) hns)
  have hwl : (discountW : List UInt8).length ≤ 1000000 := by decide
  clear hrd hns hp
  have HB0 := Lib.hid ((Below.refl w.heap.size w).alloc (Nat.le_refl _) (.cells #[.string ⟨#[100, 105, 115, 99, 111, 117, 110, 116]⟩] 9))
  have HO0 := Lib.hid (show OwnsStr (w.alloc (.cells #[.string ⟨#[100, 105, 115, 99, 111, 117, 110, 116]⟩] 9)) w.heap.size (.slice (some ⟨w.heap.size, 0, none⟩) 1 1) [discountW] from ownsRow_new (cs := [.string ⟨#[100, 105, 115, 99, 111, 117, 110, 116]⟩]) (Nat.le_refl _) rfl (by decide))
  go_enter Tryd.func33, Tryd.ntmps33
  go_wp2_with fail
  go_loopw [7, 23] (fun wv i wr => ∃ k : Nat, k ≤ ns.length ∧ i = .int .i64 k ∧ OwnsStr wr w.heap.size wv (discountW :: (ns.take k).map Lib.itoa) ∧ Below w.heap.size w wr) (fun _ i _ => ns.length - (intOf i).toNat)
  case atStart => exact ⟨0, by omega, rfl, HO0.out, HB0.out⟩
  case round =>
    obtain ⟨k, hk, rfl, hown, hb⟩ := hrel
    have HB := Lib.hid hb
    have hsz := hb.size
    have HOWN := Lib.hid hown
    clear hown
    by_cases hlt : k < ns.length
    · have hx : ns[k]? = some ns[k] := List.getElem?_eq_getElem hlt
      obtain ⟨n, hne⟩ : ∃ n, ns[k] = n := ⟨_, rfl⟩
      rw [hne] at hx
      obtain ⟨b, off, rfl, hbl, q0⟩ := RdI.at_ (HRD.out.below hb) hx
      have hnb := HNS.out n (List.mem_of_getElem? hx)
      have HT := Lib.hid (show discountW :: (ns.take (k + 1)).map Lib.itoa = (discountW :: (ns.take k).map Lib.itoa) ++ [Lib.itoa n] by rw [List.take_add_one, hx]; simp)
      have hlk : (discountW :: (ns.take k).map Lib.itoa).length ≤ 100000 := by rw [List.length_cons, List.length_map, List.length_take]; omega
      clear hx hne hb
      go_wp2_with fail
      refine (itoa_any n _ hnb.1 hnb.2 (HP.out.below HB.out hpg)).mono ?_
      rintro e w2 ⟨rfl, hb2⟩
      have HB2 := Lib.hid (HB.out.trans (hb2.mono hsz))
      have hsz2 := HB2.out.size
      have HOWN2 := Lib.hid (show OwnsStr w2 w.heap.size u7 (discountW :: (ns.take k).map Lib.itoa) from owns_below HOWN.out hb2)
      clear hb2
      go_wp2_with (at_builtin; refine append_str w2 rfl (.tmp 27) (.tmp 30) rfl w.heap.size u7 (discountW :: (ns.take k).map Lib.itoa) rfl HOWN2.out hlk hsz2 (Lib.itoa n) _ rfl rfl ?_; intro v3 w3 hown3 hg3; have HOWN3 := Lib.hid hown3; have HG3 := Lib.hid hg3; clear hown3 hg3)
      exact ⟨⟨k + 1, by omega, by go_num, by rw [HT.out]; exact HOWN3.out, HB2.out.grown HG3.out hsz2 (fun g hg => (HOWN2.out.lt g hg).1)⟩, by simp [intOf]; omega⟩
    · have HT := Lib.hid (show ns.take k = ns from List.take_of_length_le (by omega))
      have HJL := Lib.hid (show (Lib.join (discountW :: ns.map Lib.itoa) [32]).length ≤ 140737488355328 by have h1 := line_join discountW ns; have h2 := congrArg List.length h1; rw [List.length_append, List.length_singleton] at h2; have := HLL.out; omega)
      clear hb
      go_wp2_with fail
      refine (join_any _ w.heap.size _ (discountW :: ns.map Lib.itoa) (by have h9 := HOWN.out; rw [HT.out] at h9; exact h9) (by rw [List.length_cons, List.length_map]; omega) HJL.out).mono ?_
      rintro e w4 ⟨rfl, hb4⟩
      have HB4 := Lib.hid (HB.out.trans (hb4.mono hsz))
      have hss : (str (Lib.join (discountW :: ns.map Lib.itoa) [32])).size ≤ 140737488355328 := by rw [size_str]; exact HJL.out
      clear hb4
      obtain ⟨jj, hjj⟩ : ∃ jj, Lib.join (discountW :: ns.map Lib.itoa) [32] = jj := ⟨_, rfl⟩
      rw [hjj] at hss ⊢
      have HJJ := Lib.hid hjj
      clear hjj
      have q1 : ¬ 9223372036854775807 < (str jj).size + 1 := by omega
      go_wp2_with fail
      go_ret
      refine ⟨?_, HB4.out⟩
      show Ending.returned (.string (str jj ++ ⟨#[10]⟩)) = _
      rw [← line_join, HJJ.out, ← str_append]
      rfl


set_option maxRecDepth 100000 in
set_option maxHeartbeats 400000 in
theorem line_total (ns : List Int) (v : Value) (w : World) (hrd : RdI w w.heap.size v ns) (hns : ∀ n ∈ ns, -9223372036854775808 ≤ n ∧ n ≤ 9223372036854775807) (hln : ns.length ≤ 10) (hp : Pow w) (hpg : 0 < w.heap.size) :
    Calls Tryd.prog 33 #[.int .i64 2, .string ⟨#[]⟩, v] w fun e w' => e = .returned (.string (str (lineP totalW ns))) ∧ Below w.heap.size w w' := by
  obtain ⟨A, c, rfl, hc, hml⟩ := hrd.form
  unfold maxLen at hml
  have HRD := Lib.hid hrd
  have HNS := Lib.hid hns
  have HP := Lib.hid hp
  have HLL := Lib.hid (line_len (wd := totalW) hns)
  have hwl : (totalW : List UInt8).length ≤ 1000000 := by decide
  clear hrd hns hp
  have HB0 := Lib.hid ((Below.refl w.heap.size w).alloc (Nat.le_refl _) (.cells #[.string ⟨#[116, 111, 116, 97, 108]⟩] 9))
  have HO0 := Lib.hid (show OwnsStr (w.alloc (.cells #[.string ⟨#[116, 111, 116, 97, 108]⟩] 9)) w.heap.size (.slice (some ⟨w.heap.size, 0, none⟩) 1 1) [totalW] from ownsRow_new (cs := [.string ⟨#[116, 111, 116, 97, 108]⟩]) (Nat.le_refl _) rfl (by decide))
  go_enter Tryd.func33, Tryd.ntmps33
  go_wp2_with fail
  go_loopw [7, 23] (fun wv i wr => ∃ k : Nat, k ≤ ns.length ∧ i = .int .i64 k ∧ OwnsStr wr w.heap.size wv (totalW :: (ns.take k).map Lib.itoa) ∧ Below w.heap.size w wr) (fun _ i _ => ns.length - (intOf i).toNat)
  case atStart => exact ⟨0, by omega, rfl, HO0.out, HB0.out⟩
  case round =>
    obtain ⟨k, hk, rfl, hown, hb⟩ := hrel
    have HB := Lib.hid hb
    have hsz := hb.size
    have HOWN := Lib.hid hown
    clear hown
    by_cases hlt : k < ns.length
    · have hx : ns[k]? = some ns[k] := List.getElem?_eq_getElem hlt
      obtain ⟨n, hne⟩ : ∃ n, ns[k] = n := ⟨_, rfl⟩
      rw [hne] at hx
      obtain ⟨b, off, rfl, hbl, q0⟩ := RdI.at_ (HRD.out.below hb) hx
      have hnb := HNS.out n (List.mem_of_getElem? hx)
      have HT := Lib.hid (show totalW :: (ns.take (k + 1)).map Lib.itoa = (totalW :: (ns.take k).map Lib.itoa) ++ [Lib.itoa n] by rw [List.take_add_one, hx]; simp)
      have hlk : (totalW :: (ns.take k).map Lib.itoa).length ≤ 100000 := by rw [List.length_cons, List.length_map, List.length_take]; omega
      clear hx hne hb
      go_wp2_with fail
      refine (itoa_any n _ hnb.1 hnb.2 (HP.out.below HB.out hpg)).mono ?_
      rintro e w2 ⟨rfl, hb2⟩
      have HB2 := Lib.hid (HB.out.trans (hb2.mono hsz))
      have hsz2 := HB2.out.size
      have HOWN2 := Lib.hid (show OwnsStr w2 w.heap.size u7 (totalW :: (ns.take k).map Lib.itoa) from owns_below HOWN.out hb2)
      clear hb2
      go_wp2_with (at_builtin; refine append_str w2 rfl (.tmp 27) (.tmp 30) rfl w.heap.size u7 (totalW :: (ns.take k).map Lib.itoa) rfl HOWN2.out hlk hsz2 (Lib.itoa n) _ rfl rfl ?_; intro v3 w3 hown3 hg3; have HOWN3 := Lib.hid hown3; have HG3 := Lib.hid hg3; clear hown3 hg3)
      exact ⟨⟨k + 1, by omega, by go_num, by rw [HT.out]; exact HOWN3.out, HB2.out.grown HG3.out hsz2 (fun g hg => (HOWN2.out.lt g hg).1)⟩, by simp [intOf]; omega⟩
    · have HT := Lib.hid (show ns.take k = ns from List.take_of_length_le (by omega))
      have HJL := Lib.hid (show (Lib.join (totalW :: ns.map Lib.itoa) [32]).length ≤ 140737488355328 by have h1 := line_join totalW ns; have h2 := congrArg List.length h1; rw [List.length_append, List.length_singleton] at h2; have := HLL.out; omega)
      clear hb
      go_wp2_with fail
      refine (join_any _ w.heap.size _ (totalW :: ns.map Lib.itoa) (by have h9 := HOWN.out; rw [HT.out] at h9; exact h9) (by rw [List.length_cons, List.length_map]; omega) HJL.out).mono ?_
      rintro e w4 ⟨rfl, hb4⟩
      have HB4 := Lib.hid (HB.out.trans (hb4.mono hsz))
      have hss : (str (Lib.join (totalW :: ns.map Lib.itoa) [32])).size ≤ 140737488355328 := by rw [size_str]; exact HJL.out
      clear hb4
      obtain ⟨jj, hjj⟩ : ∃ jj, Lib.join (totalW :: ns.map Lib.itoa) [32] = jj := ⟨_, rfl⟩
      rw [hjj] at hss ⊢
      have HJJ := Lib.hid hjj
      clear hjj
      have q1 : ¬ 9223372036854775807 < (str jj).size + 1 := by omega
      go_wp2_with fail
      go_ret
      refine ⟨?_, HB4.out⟩
      show Ending.returned (.string (str jj ++ ⟨#[10]⟩)) = _
      rw [← line_join, HJJ.out, ← str_append]
      rfl


end Go.Proofs.YtdbkdneolcgfjaaDoor
