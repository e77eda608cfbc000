/- SlotTags by hand: keys with the same tag in braces have the slot of the tag alone. -/
import Derived.Test.YtjgickfndcfgfaaHandA
namespace Go.Proofs.Ytjgickfndcfgfaa.HandS
open Go.RowKit Go.Proofs.Ytjgickfndcfgfaa.HandC
set_option linter.unusedVariables false
set_option linter.unusedSimpArgs false
theorem index_mid (c : UInt8) (l2 : List UInt8) : ∀ l1 : List UInt8, c ∉ l1 → Lib.indexByte (l1 ++ c :: l2) c = l1.length := by
  intro l1
  induction l1 with
  | nil => intro _; simp [Lib.indexByte]
  | cons x l ih =>
    intro h
    have hx : (x == c) = false := beq_eq_false_iff_ne.mpr (fun e => h (e ▸ List.mem_cons_self))
    have h2 := ih (fun hm => h (List.mem_cons_of_mem _ hm))
    simp only [List.cons_append, Lib.indexByte, hx, h2]
    have h3 : (((l.length : Nat) : Int) == -1) = false := beq_eq_false_iff_ne.mpr (by omega)
    simp [h3]
theorem index_out (c : UInt8) : ∀ l1 : List UInt8, c ∉ l1 → Lib.indexByte l1 c = -1 := by
  intro l1
  induction l1 with
  | nil => intro _; rfl
  | cons x l ih =>
    intro h
    have hx : (x == c) = false := beq_eq_false_iff_ne.mpr (fun e => h (e ▸ List.mem_cons_self))
    have h2 := ih (fun hm => h (List.mem_cons_of_mem _ hm))
    simp only [Lib.indexByte, hx, h2]
    rfl
theorem bytes_ext {s t : ByteArray} (h : s.data.toList = t.data.toList) : s = t := by
  rw [← Lib.mk_data s, ← Lib.mk_data t, h]
theorem rest_drop (s : ByteArray) (n : Nat) : (s.extract n s.size).data.toList = s.data.toList.drop n := by
  rw [Lib.extract_data, List.take_of_length_le (by rw [List.length_drop, Lib.size_eq]; omega)]
/-- A text whose first braces hold something. -/
theorem tag_mid (s : ByteArray) (l1 l2 l3 : List UInt8) (hs : s.data.toList = l1 ++ 123 :: (l2 ++ 125 :: l3)) (h1 : 123 ∉ l1) (h2 : 125 ∉ l2) (t : ByteArray) (ht : t.data.toList = l2) (h0 : l2 ≠ []) : tagOf s = t := by
  have e1 : hit s 123 = l1.length := by unfold hit; rw [hs]; exact index_mid 123 _ l1 h1
  have er : (s.extract (l1.length + 1) s.size).data.toList = l2 ++ 125 :: l3 := by
    rw [rest_drop, hs, List.drop_append, List.drop_of_length_le (by omega)]
    simp
  have e2 : hit (s.extract (l1.length + 1) s.size) 125 = l2.length := by unfold hit; rw [er]; exact index_mid 125 _ l2 h2
  have hl : 0 < l2.length := List.length_pos_iff.2 h0
  unfold tagOf
  rw [if_neg (by omega), e1, Int.toNat_natCast, e2, if_neg (by omega), Int.toNat_natCast]
  apply bytes_ext
  rw [Lib.extract_data, er, ht]
  simp
theorem tag_none (s : ByteArray) (h : 123 ∉ s.data.toList) : tagOf s = s := by
  unfold tagOf
  rw [if_pos (show hit s 123 = -1 from index_out 123 _ h)]
/-- Nothing between the first braces. -/
theorem tag_empty (s : ByteArray) (l1 l3 : List UInt8) (hs : s.data.toList = l1 ++ 123 :: 125 :: l3) (h1 : 123 ∉ l1) : tagOf s = s := by
  have e1 : hit s 123 = l1.length := by unfold hit; rw [hs]; exact index_mid 123 _ l1 h1
  have er : (s.extract (l1.length + 1) s.size).data.toList = [] ++ 125 :: l3 := by
    rw [rest_drop, hs, List.drop_append, List.drop_of_length_le (by omega)]
    simp
  have e2 : hit (s.extract (l1.length + 1) s.size) 125 = 0 := by unfold hit; rw [er]; exact index_mid 125 _ [] (by simp)
  unfold tagOf
  rw [if_neg (by omega), e1, Int.toNat_natCast, e2, if_pos (Int.le_refl _)]
/-- None that closes. -/
theorem tag_open (s : ByteArray) (l1 l3 : List UInt8) (hs : s.data.toList = l1 ++ 123 :: l3) (h1 : 123 ∉ l1) (h3 : 125 ∉ l3) : tagOf s = s := by
  have e1 : hit s 123 = l1.length := by unfold hit; rw [hs]; exact index_mid 123 _ l1 h1
  have er : (s.extract (l1.length + 1) s.size).data.toList = l3 := by
    rw [rest_drop, hs, List.drop_append, List.drop_of_length_le (by omega)]
    simp
  have e2 : hit (s.extract (l1.length + 1) s.size) 125 = -1 := by unfold hit; rw [er]; exact index_out 125 _ h3
  unfold tagOf
  rw [if_neg (by omega), e1, Int.toNat_natCast, e2, if_pos (by decide)]
theorem byte_is (s : ByteArray) (j : Nat) (h : j < s.size) : s.data.toList[j]? = some s[j] := by
  have h' : j < s.data.toList.length := by rw [← Lib.size_eq]; exact h
  rw [List.getElem?_eq_getElem h']
  rfl
/-- The first j bytes are none of these. -/
theorem none_step {s : ByteArray} {c : UInt8} {j : Nat} (hj : j < s.size) (h : ∀ k, k < j → s.data.toList[k]? ≠ some c) (cv : Int) (hc : ((c.toNat : Nat) : Int) = cv) (hne : ((s[j].toNat : Int) == cv) = false) : ∀ k, k < j + 1 → s.data.toList[k]? ≠ some c := by
  intro k hk
  by_cases e : k = j
  · subst e
    rw [byte_is s k hj]
    intro h3
    have h4 : s[k] = c := Option.some.inj h3
    rw [h4, ← hc] at hne
    simp at hne
  · exact h k (by omega)
theorem none_mem {s : ByteArray} {c : UInt8} (h : ∀ k, k < s.size → s.data.toList[k]? ≠ some c) : c ∉ s.data.toList := by
  intro hm
  obtain ⟨k, hk⟩ := List.mem_iff_getElem?.1 hm
  have h2 := (List.getElem?_eq_some_iff.1 hk).1
  exact h k (by rw [Lib.size_eq]; exact h2) hk
theorem app_list (s t : ByteArray) : (s ++ t).data.toList = s.data.toList ++ t.data.toList := by simp
theorem key_tag (t a z : ByteArray) (h1 : 123 ∉ t.data.toList) (h2 : 125 ∉ t.data.toList) (h3 : 123 ∉ a.data.toList) (h0 : t.toList.isEmpty = false) :
    tagOf (a ++ ⟨#[123]⟩ ++ t ++ ⟨#[125]⟩ ++ z) = t ∧ (a ++ ⟨#[123]⟩ ++ t ++ ⟨#[125]⟩ ++ z).size = a.size + 1 + t.size + 1 + z.size := by
  refine ⟨tag_mid _ a.data.toList t.data.toList z.data.toList ?_ h3 h2 t rfl ?_, ?_⟩
  · simp only [app_list]
    simp
  · intro e
    rw [Lib.toList_data, e] at h0
    cases h0
  · simp only [Lib.size_eq, app_list, List.length_append]
    rfl
set_option maxRecDepth 100000 in
set_option maxHeartbeats 4000000 in
theorem tags_in (t a z : ByteArray) (w : World) (ht : t.size ≤ 500) (ha : a.size ≤ 500) (hz : z.size ≤ 500) (h0 : (t.toList.isEmpty) = false) : Calls Try.prog 8 #[.string t, .string a, .string z] w fun e w' => e = .returned (.bool true) ∧ Below w.heap.size w w' := by
  have H0 := Aside0.mk h0
  go_enter Try.func8, Try.ntmps8
  go_wp2_with (go_at_call 11; with_reducible refine (anchor_c _).mono ?_; rintro e w1 ⟨rfl, hb⟩; have HB := Aside0.mk hb; clear hb)
  go_loopw [32] (fun i wr => ∃ j : Nat, j ≤ t.size ∧ i = .int .i64 j ∧ (∀ k, k < j → t.data.toList[k]? ≠ some 123) ∧ (∀ k, k < j → t.data.toList[k]? ≠ some 125) ∧ wr = w1) (fun i _ => t.size - (intOf i).toNat)
  case atStart => exact ⟨0, by omega, rfl, fun k hk => by omega, fun k hk => by omega, rfl⟩
  case round =>
    obtain ⟨j, hj, rfl, hn1, hn2, rfl⟩ := hrel
    have N1 := Aside0.mk hn1
    have N2 := Aside0.mk hn2
    clear hn1 hn2
    by_cases hlt : j < t.size
    · have hlt2 : (j : Int) < t.size := by omega
      go_wp2
      · go_ret
        exact ⟨rfl, HB.out⟩
      · go_ret
        exact ⟨rfl, HB.out⟩
      · obtain ⟨b1, b2⟩ : ((t[j].toNat : Int) == 123) = false ∧ ((t[j].toNat : Int) == 125) = false := by assumption
        exact ⟨⟨j + 1, by omega, by go_num, none_step hlt N1.out 123 (by decide) b1, none_step hlt N2.out 125 (by decide) b2, trivial⟩, by simp [intOf]; omega⟩
    · have hge : (t.size : Int) ≤ j := by omega
      obtain rfl : j = t.size := by omega
      go_wp2
      obtain ⟨w2, hw2⟩ : ∃ w2, w2 = wr := ⟨_, rfl⟩
      subst hw2
      go_loopw [48] (fun i wr => ∃ j : Nat, j ≤ a.size ∧ i = .int .i64 j ∧ (∀ k, k < j → a.data.toList[k]? ≠ some 123) ∧ wr = w2) (fun i _ => a.size - (intOf i).toNat)
      case atStart => exact ⟨0, by omega, rfl, fun k hk => by omega, rfl⟩
      case round =>
        obtain ⟨j, hj, rfl, hn1, rfl⟩ := hrel
        have N3 := Aside0.mk hn1
        clear hn1
        by_cases hlt3 : j < a.size
        · have hlt2 : (j : Int) < a.size := by omega
          go_wp2
          · go_ret
            exact ⟨rfl, HB.out⟩
          · have b1 : ((a[j].toNat : Int) == 123) = false := by assumption
            exact ⟨⟨j + 1, by omega, by go_num, none_step hlt3 N3.out 123 (by decide) b1, trivial⟩, by simp [intOf]; omega⟩
        · have hge2 : (a.size : Int) ≤ j := by omega
          obtain rfl : j = a.size := by omega
          obtain ⟨hkey, hsz⟩ := key_tag t a z (none_mem N1.out) (none_mem N2.out) (none_mem N3.out) H0.out
          have HK := Aside0.mk hkey
          have HSZ := Aside0.mk (show (a ++ ⟨#[123]⟩ ++ t ++ ⟨#[125]⟩ ++ z).size < 4294967296 by rw [hsz]; omega)
          have HT := Aside0.mk (tag_none t (none_mem N1.out))
          clear hkey hsz
          obtain ⟨r, hr⟩ : ∃ r, crc 0 (nats t) % 64 = r := ⟨_, rfl⟩
          have hr64 : r < 64 := by rw [← hr]; exact Nat.mod_lt _ (by decide)
          have R1 := Aside0.mk (show crc 0 (nats (tagOf (a ++ ⟨#[123]⟩ ++ t ++ ⟨#[125]⟩ ++ z))) % 64 = r by rw [HK.out]; exact hr)
          have R2 := Aside0.mk (show crc 0 (nats (tagOf t)) % 64 = r by rw [HT.out]; exact hr)
          clear hr
          have hts : t.size < 4294967296 := by omega
          go_wp2_with (first
            | (go_at_call 12; with_reducible refine (new_h w _ HB.out).mono ?_; rintro e w2 ⟨b, rfl, hm, -, -⟩; have HM := Aside0.mk hm; clear hm)
            | (go_at_call 16; with_reducible refine (tag_h _ _ HSZ.out t HK.out).mono ?_; rintro e w3 ⟨rfl, hm⟩; have HM' := Aside0.mk (HM.out.same hm); clear hm HM; have HM := HM'; clear HM')
            | (go_at_call 18; with_reducible refine (slot_h w _ b HM.out _ HSZ.out r R1.out).mono ?_; rintro e w5 ⟨rfl, hm, -⟩; have HM' := Aside0.mk hm; clear hm HM; have HM := HM'; clear HM')
            | (go_at_call 18; with_reducible refine (slot_h w _ b HM.out t hts r R2.out).mono ?_; rintro e w5 ⟨rfl, hm, -⟩; have HM' := Aside0.mk hm; clear hm HM; have HM := HM'; clear HM'))
          all_goals go_ret
          all_goals exact ⟨by simp; omega, HM.out.bel⟩
theorem tags_out (t a z : ByteArray) (w : World) (ht : t.size ≤ maxLen) (ha : a.size ≤ maxLen) (hz : z.size ≤ maxLen) (h : 500 < t.size ∨ (t.size ≤ 500 ∧ 500 < a.size) ∨ (t.size ≤ 500 ∧ a.size ≤ 500 ∧ 500 < z.size) ∨ (t.size ≤ 500 ∧ a.size ≤ 500 ∧ z.size ≤ 500 ∧ t = ByteArray.empty)) : Calls Try.prog 8 #[.string t, .string a, .string z] w fun e w' => e = .returned (.bool true) ∧ Below w.heap.size w w' := by
  unfold maxLen at ht ha hz
  rcases h with h | ⟨h1, h2⟩ | ⟨h1, h2, h3⟩ | ⟨h1, h2, h3, rfl⟩
  all_goals (go_enter Try.func8, Try.ntmps8)
  all_goals go_wp2_with (go_at_call 11; with_reducible refine (anchor_c _).mono ?_; rintro e w1 ⟨rfl, hb⟩; have HB := Aside0.mk hb; clear hb)
  all_goals go_ret
  all_goals exact ⟨rfl, HB.out⟩
theorem tags_calls (t a z : ByteArray) (w : World) (ht : t.size ≤ maxLen) (ha : a.size ≤ maxLen) (hz : z.size ≤ maxLen) : Calls Try.prog 8 #[.string t, .string a, .string z] w fun e w' => e = .returned (.bool true) ∧ Below w.heap.size w w' := by
  by_cases h1 : t.size ≤ 500
  · by_cases h2 : a.size ≤ 500
    · by_cases h3 : z.size ≤ 500
      · cases h0 : t.toList.isEmpty with
        | false => exact tags_in t a z w h1 h2 h3 h0
        | true =>
          have e : t = ByteArray.empty := by
            rw [Lib.toList_data, List.isEmpty_iff] at h0
            exact bytes_ext h0
          exact tags_out t a z w ht ha hz (.inr (.inr (.inr ⟨h1, h2, h3, e⟩)))
      · exact tags_out t a z w ht ha hz (.inr (.inr (.inl ⟨h1, h2, by omega⟩)))
    · exact tags_out t a z w ht ha hz (.inr (.inl ⟨h1, by omega⟩))
  · exact tags_out t a z w ht ha hz (.inl (by omega))
end Go.Proofs.Ytjgickfndcfgfaa.HandS
