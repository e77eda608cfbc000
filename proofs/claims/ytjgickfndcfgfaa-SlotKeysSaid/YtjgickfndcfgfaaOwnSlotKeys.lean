/- SlotKeys by hand: a key's tag and slot against the document's. -/
import Derived.Test.YtjgickfndcfgfaaHandA
namespace Go.Proofs.Ytjgickfndcfgfaa.HandS
open Go.RowKit Go.Proofs.Ytjgickfndcfgfaa.HandC
set_option linter.unusedVariables false
set_option linter.unusedSimpArgs false
/-- The first place of a byte from a place on. -/
def Fnd (s : ByteArray) (c : UInt8) (n : Nat) (r : Int) : Prop :=
  (∃ i : Nat, r = i ∧ n ≤ i ∧ s.data.toList[i]? = some c ∧ ∀ k, n ≤ k → k < i → s.data.toList[k]? ≠ some c) ∨ (r = -1 ∧ ∀ k : Nat, n ≤ k → s.data.toList[k]? ≠ some c)
theorem elem_at (s : ByteArray) (j : Nat) (h : j < s.size) : s.data.toList[j]? = some s[j] := by
  have h' : j < s.data.toList.length := by rw [← Lib.size_eq]; exact h
  rw [List.getElem?_eq_getElem h']
  rfl
set_option maxRecDepth 100000 in
theorem find_c (s : ByteArray) (c : UInt8) (n : Nat) (r : Int) (w : World) (hs : s.size < 4294967296) (hn : n ≤ s.size) (hf : Fnd s c n r) :
    Calls Try.prog 23 #[.string s, .int .u8 (c.toNat : Nat), .int .i64 n] w fun e w' => e = .returned (.int .i64 r) ∧ w' = w := by
  obtain ⟨w0, hw0⟩ : ∃ w0, w0 = w := ⟨_, rfl⟩
  subst hw0
  have HF := Aside0.mk hf
  clear hf
  go_enter Try.func23, Try.ntmps23
  go_wp2
  go_loopw [7] (fun i wr => ∃ j : Nat, n ≤ j ∧ j ≤ s.size ∧ i = .int .i64 j ∧ (∀ k, n ≤ k → k < j → s.data.toList[k]? ≠ some c) ∧ wr = w0) (fun i _ => s.size - (intOf i).toNat)
  case atStart => exact ⟨n, Nat.le_refl _, by omega, rfl, fun k h1 h2 => by omega, rfl⟩
  case round =>
    obtain ⟨j, hnj, hj, rfl, hno, rfl⟩ := hrel
    have HNO := Aside0.mk hno
    clear hno
    by_cases hlt : j < s.size
    · have hlt2 : (j : Int) < s.size := by omega
      have he := Aside0.mk (elem_at s j hlt)
      go_wp2
      · have h : ((s[j].toNat : Int) == (c.toNat : Int)) = true := by assumption
        have hc : s[j] = c := UInt8.toNat_inj.1 (by have := beq_iff_eq.1 h; omega)
        have hr : r = j := by
          rcases HF.out with ⟨i, hi, h1, h2, h3⟩ | ⟨_, h3⟩
          · by_cases e : i < j
            · exact absurd h2 (HNO.out i h1 e)
            · by_cases e2 : j < i
              · exact absurd (he.out.trans (by rw [hc])) (h3 j hnj e2)
              · omega
          · exact absurd (he.out.trans (by rw [hc])) (h3 j hnj)
        go_ret
        exact ⟨by rw [hr]; rfl, rfl⟩
      · have h : ((s[j].toNat : Int) == (c.toNat : Int)) = false := by assumption
        refine ⟨⟨j + 1, by omega, by omega, by go_num, fun k h1 h2 => ?_, trivial⟩, by simp [intOf]; omega⟩
        by_cases e : k = j
        · subst e
          rw [he.out]
          intro h3
          have h4 : s[k] = c := Option.some.inj h3
          rw [h4] at h
          simp at h
        · exact HNO.out k h1 (by omega)
    · have hge : (s.size : Int) ≤ j := by omega
      have hr : r = -1 := by
        rcases HF.out with ⟨i, hi, h1, h2, h3⟩ | ⟨h, _⟩
        · have h4 := (List.getElem?_eq_some_iff.1 h2).1
          rw [← Lib.size_eq] at h4
          exact absurd h2 (HNO.out i h1 (by omega))
        · exact h
      have HR := Aside0.mk hr
      clear hr
      go_wp2
      go_ret
      exact ⟨by rw [HR.out]; rfl, rfl⟩
theorem find_v (s : ByteArray) (c : UInt8) (n : Nat) (r : Int) (w : World) (hs : s.size < 4294967296) (hn : n ≤ s.size) (hf : Fnd s c n r) (cv nv : Int) (hc : ((c.toNat : Nat) : Int) = cv) (hv : (n : Int) = nv) :
    Calls Try.prog 23 #[.string s, .int .u8 cv, .int .i64 nv] w fun e w' => e = .returned (.int .i64 r) ∧ w' = w := by
  subst hc hv
  exact find_c s c n r w hs hn hf
theorem fnd_hit (s : ByteArray) (c : UInt8) : Fnd s c 0 (hit s c) := by
  rcases hit_cases s c with h | ⟨i, h, hi⟩
  · right
    refine ⟨h, fun k _ => Lib.indexByte_none (l := s.data.toList) (c := c) h k⟩
  · left
    obtain ⟨h1, h2⟩ := Lib.indexByte_some (l := s.data.toList) (c := c) (o := i) h
    exact ⟨i, h, Nat.zero_le _, h1, fun k _ hk => h2 k hk⟩
theorem rest_list (s : ByteArray) (n : Nat) : (s.extract n s.size).data.toList = s.data.toList.drop n := by
  rw [Lib.extract_data, List.take_of_length_le (by rw [List.length_drop, Lib.size_eq]; omega)]
theorem fnd_rest (s : ByteArray) (c : UInt8) (n : Nat) : Fnd s c n (if hit (s.extract n s.size) c = -1 then -1 else n + hit (s.extract n s.size) c) := by
  have hl := rest_list s n
  rcases hit_cases (s.extract n s.size) c with h | ⟨i, h, hi⟩
  · right
    refine ⟨if_pos h, fun k hk => ?_⟩
    have h1 := Lib.indexByte_none (l := (s.extract n s.size).data.toList) (c := c) h (k - n)
    rw [hl, List.getElem?_drop, show n + (k - n) = k by omega] at h1
    exact h1
  · left
    obtain ⟨h1, h2⟩ := Lib.indexByte_some (l := (s.extract n s.size).data.toList) (c := c) (o := i) h
    refine ⟨n + i, by rw [if_neg (by omega), h]; push_cast; rfl, by omega, ?_, fun k h3 h4 => ?_⟩
    · rw [hl, List.getElem?_drop] at h1
      exact h1
    · have h5 := h2 (k - n) (by omega)
      rw [hl, List.getElem?_drop, show n + (k - n) = k by omega] at h5
      exact h5
theorem cut_twice (s : ByteArray) (n j : Nat) (hn : n ≤ s.size) : (s.extract n s.size).extract 0 j = s.extract n (n + j) := by
  rw [Lib.extract_eq (s.extract n s.size), rest_list, Lib.extract_eq s, List.drop_zero, Nat.sub_zero, Nat.add_sub_cancel_left]
set_option maxRecDepth 100000 in
theorem ref_tag_c (s : ByteArray) (w : World) (hs : s.size < 4294967296) (t : ByteArray) (ht : tagOf s = t) :
    Calls Try.prog 17 #[.string s] w fun e w' => e = .returned (.string t) ∧ w' = w := by
  unfold tagOf at ht
  have f1 := fnd_hit s 123
  rcases hit_cases s 123 with h | ⟨i, h, hi⟩
  · rw [if_pos h] at ht
    rw [h] at f1
    have F1 := Aside0.mk f1
    clear f1 h
    subst ht
    go_enter Try.func17, Try.ntmps17
    go_wp2_with (go_at_call 23; with_reducible refine (find_v s 123 0 _ _ hs (Nat.zero_le _) F1.out _ _ (by decide) (by decide)).mono ?_; rintro e w' ⟨rfl, rfl⟩)
    go_ret
    exact ⟨rfl, rfl⟩
  · have hin : (hit s 123).toNat = i := by omega
    rw [if_neg (by omega), hin] at ht
    have f2 := fnd_rest s 125 (i + 1)
    rw [h] at f1
    rcases hit_cases (s.extract (i + 1) s.size) 125 with h2 | ⟨j, h2, hj⟩
    · rw [if_pos (by omega)] at ht
      rw [if_pos h2] at f2
      have F1 := Aside0.mk f1
      have F2 := Aside0.mk f2
      clear f1 f2 h h2 hin
      subst ht
      go_enter Try.func17, Try.ntmps17
      go_wp2_with (first
        | (go_at_call 23; with_reducible refine (find_v s 123 0 _ _ hs (Nat.zero_le _) F1.out _ _ (by decide) (by decide)).mono ?_; rintro e w' ⟨rfl, rfl⟩)
        | (go_at_call 23; with_reducible refine (find_v s 125 (i + 1) _ _ hs hi F2.out _ _ (by decide) (by push_cast; rfl)).mono ?_; rintro e w' ⟨rfl, rfl⟩))
      go_ret
      exact ⟨rfl, rfl⟩
    · rw [if_neg (by omega), h2] at f2
      rw [ByteArray.size_extract] at hj
      have F1 := Aside0.mk f1
      have F2 := Aside0.mk f2
      by_cases h0 : j = 0
      · rw [if_pos (by omega)] at ht
        subst h0
        clear f1 f2 h h2 hin
        subst ht
        go_enter Try.func17, Try.ntmps17
        go_wp2_with (first
          | (go_at_call 23; with_reducible refine (find_v s 123 0 _ _ hs (Nat.zero_le _) F1.out _ _ (by decide) (by decide)).mono ?_; rintro e w' ⟨rfl, rfl⟩)
          | (go_at_call 23; with_reducible refine (find_v s 125 (i + 1) _ _ hs hi F2.out _ _ (by decide) (by push_cast; rfl)).mono ?_; rintro e w' ⟨rfl, rfl⟩))
        go_ret
        exact ⟨rfl, rfl⟩
      · rw [if_neg (by omega), h2, Int.toNat_natCast, cut_twice s (i + 1) j hi] at ht
        obtain ⟨q, hq⟩ : ∃ q, i + 1 + j = q := ⟨_, rfl⟩
        have hqi : ((i + 1 : Nat) : Int) + (j : Int) = (q : Nat) := by omega
        rw [hqi] at f2
        rw [hq] at ht
        have F1 := Aside0.mk f1
        have F2 := Aside0.mk f2
        have HT := Aside0.mk ht
        have b1 : (0 : Int) ≤ (i : Int) + 1 := by omega
        have b2 : (i : Int) + 1 ≤ (q : Int) := by omega
        have b3 : (q : Int) ≤ s.size := by omega
        have b4 : ((q : Int) == (i : Int) + 1) = false := beq_eq_false_iff_ne.mpr (by omega)
        have b5 : (0 : Int) ≤ (q : Int) := by omega
        clear f1 f2 h h2 hin ht hq hqi
        go_enter Try.func17, Try.ntmps17
        go_wp2_with (first
          | (go_at_call 23; with_reducible refine (find_v s 123 0 _ _ hs (Nat.zero_le _) F1.out _ _ (by decide) (by decide)).mono ?_; rintro e w' ⟨rfl, rfl⟩)
          | (go_at_call 23; with_reducible refine (find_v s 125 (i + 1) _ _ hs hi F2.out _ _ (by decide) (by push_cast; rfl)).mono ?_; rintro e w' ⟨rfl, rfl⟩))
        go_ret
        exact ⟨by rw [← HT.out]; rfl, rfl⟩
set_option maxRecDepth 100000 in
theorem ref_slot_c (s : ByteArray) (w : World) (hs : s.size < 4294967296) (r : Nat) (hr : crc 0 (nats (tagOf s)) % 64 = r) :
    Calls Try.prog 19 #[.string s] w fun e w' => e = .returned (.int .i64 r) ∧ Below w.heap.size w w' := by
  have hts := tagOf_size s
  obtain ⟨t, ht⟩ : ∃ t, tagOf s = t := ⟨_, rfl⟩
  rw [ht] at hts hr
  have HT := Aside0.mk ht
  have hcr := crc_lt (nats t) 0 (by decide) (nats_lt t)
  have hcv := conv_bytes
  clear ht
  obtain ⟨c, hc⟩ : ∃ c, crc 0 (nats t) = c := ⟨_, rfl⟩
  rw [hc] at hcr hr
  have HC := Aside0.mk hc
  have HR := Aside0.mk hr
  clear hc hr
  go_enter Try.func19, Try.ntmps19
  go_wp2_with (first
    | (go_at_call 17; with_reducible refine (ref_tag_c s _ hs t HT.out).mono ?_; rintro e w1 ⟨rfl, rfl⟩)
    | (go_at_call 13; with_reducible refine (ref_sum_c _ _ _ _ _ (bw_bytes _ 5 t (by omega))).mono ?_; rintro e w2 ⟨rfl, rfl⟩; rw [HC.out]))
  go_ret
  exact ⟨by rw [← HR.out]; rfl, bw_below _ 5 t⟩
set_option maxRecDepth 100000 in
set_option maxHeartbeats 4000000 in
theorem keys_calls (s : ByteArray) (w : World) (hb : s.size ≤ maxLen) : Calls Try.prog 7 #[.string s] w fun e w' => e = .returned (.bool true) ∧ Below w.heap.size w w' := by
  have hb' : s.size ≤ 9223372036854775807 := by unfold maxLen at hb; omega
  clear hb
  by_cases h : s.size ≤ 2000
  · have hs : s.size < 4294967296 := by omega
    obtain ⟨t, ht⟩ : ∃ t, tagOf s = t := ⟨_, rfl⟩
    obtain ⟨r, hr⟩ : ∃ r, crc 0 (nats (tagOf s)) % 64 = r := ⟨_, rfl⟩
    have HT := Aside0.mk ht
    have HR := Aside0.mk hr
    clear ht hr
    go_enter Try.func7, Try.ntmps7
    go_wp2_with (first
      | (go_at_call 11; with_reducible refine (anchor_c _).mono ?_; rintro e w1 ⟨rfl, hb⟩; have HB := Aside0.mk hb; clear hb)
      | (go_at_call 12; with_reducible refine (new_h w _ HB.out).mono ?_; rintro e w2 ⟨b, rfl, hm, -, -⟩; have HM := Aside0.mk hm; clear hm)
      | (go_at_call 16; with_reducible refine (tag_h s _ hs t HT.out).mono ?_; rintro e w3 ⟨rfl, hm⟩; have HM2 := Aside0.mk (HM.out.same hm); clear hm)
      | (go_at_call 17; with_reducible refine (ref_tag_c s _ hs t HT.out).mono ?_; rintro e w4 ⟨rfl, rfl⟩)
      | (go_at_call 18; with_reducible refine (slot_h w _ b HM2.out s hs r HR.out).mono ?_; rintro e w5 ⟨rfl, hm, -⟩; have HM3 := Aside0.mk hm; clear hm)
      | (go_at_call 19; with_reducible refine (ref_slot_c s _ hs r HR.out).mono ?_; rintro e w6 ⟨rfl, hm⟩; have HM4 := Aside0.mk (HM3.out.go hm); clear hm))
    all_goals go_ret
    all_goals exact ⟨by simp, HM4.out.bel⟩
  · go_enter Try.func7, Try.ntmps7
    go_wp2_with (go_at_call 11; with_reducible refine (anchor_c _).mono ?_; rintro e w1 ⟨rfl, hb⟩; have HB := Aside0.mk hb; clear hb)
    go_ret
    exact ⟨rfl, HB.out⟩
end Go.Proofs.Ytjgickfndcfgfaa.HandS
