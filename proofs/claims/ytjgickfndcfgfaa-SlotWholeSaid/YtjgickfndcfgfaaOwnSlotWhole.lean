/- SlotWhole by hand: keys without braces that hold something count as a whole. -/
import Derived.Test.YtjgickfndcfgfaaOwnSlotTags
namespace Go.Proofs.Ytjgickfndcfgfaa.HandS
open Go.RowKit Go.Proofs.Ytjgickfndcfgfaa.HandC
set_option linter.unusedVariables false
set_option linter.unusedSimpArgs false
/-- Whether a byte was met among the first j. -/
def met (s : ByteArray) (c : UInt8) (j : Nat) : Bool := (s.data.toList.take j).contains c
theorem met_step (s : ByteArray) (c : UInt8) (j : Nat) (h : j < s.size) (cv : Int) (hc : ((c.toNat : Nat) : Int) = cv) : met s c (j + 1) = (met s c j || ((s[j].toNat : Int) == cv)) := by
  unfold met
  rw [List.take_add_one, byte_is s j h, List.contains_append]
  congr 1
  rw [← hc]
  simp only [Option.toList, List.contains_cons, List.contains_nil, Bool.or_false]
  rw [Bool.eq_iff_iff, beq_iff_eq, beq_iff_eq]
  constructor
  · rintro rfl; rfl
  · intro e
    exact UInt8.toNat_inj.1 (by omega)
theorem met_all {s : ByteArray} {c : UInt8} (h : met s c s.size = false) : c ∉ s.data.toList := by
  unfold met at h
  rw [Lib.size_eq, List.take_length] at h
  simpa using h
theorem key_empty (a z : ByteArray) (h : 123 ∉ a.data.toList) : tagOf (a ++ ⟨#[123, 125]⟩ ++ z) = a ++ ⟨#[123, 125]⟩ ++ z ∧ (a ++ ⟨#[123, 125]⟩ ++ z).size = a.size + 2 + z.size := by
  refine ⟨tag_empty _ a.data.toList z.data.toList ?_ h, ?_⟩
  · simp only [app_list]
    simp
  · simp only [Lib.size_eq, app_list, List.length_append]
    rfl
theorem key_open (a z : ByteArray) (h : 123 ∉ a.data.toList) (hz : 125 ∉ z.data.toList) : tagOf (a ++ ⟨#[123]⟩ ++ z) = a ++ ⟨#[123]⟩ ++ z ∧ (a ++ ⟨#[123]⟩ ++ z).size = a.size + 1 + z.size := by
  refine ⟨tag_open _ a.data.toList z.data.toList ?_ h hz, ?_⟩
  · simp only [app_list]
    simp
  · simp only [Lib.size_eq, app_list, List.length_append]
    rfl
set_option maxRecDepth 100000 in
set_option maxHeartbeats 4000000 in
theorem whole_in (a z : ByteArray) (w : World) (ha : a.size ≤ 300) (hz : z.size ≤ 300) : Calls Try.prog 10 #[.string a, .string z] w fun e w' => e = .returned (.bool true) ∧ Below w.heap.size w w' := by
  go_enter Try.func10, Try.ntmps10
  go_wp2_with (go_at_call 11; with_reducible refine (anchor_c _).mono ?_; rintro e w1 ⟨rfl, hb⟩; have HB := Aside0.mk hb; clear hb)
  go_loopw [5, 23] (fun o i wr => ∃ j : Nat, j ≤ a.size ∧ i = .int .i64 j ∧ o = .bool (met a 123 j) ∧ wr = w1) (fun _ i _ => a.size - (intOf i).toNat)
  case atStart => exact ⟨0, by omega, rfl, rfl, rfl⟩
  case round =>
    obtain ⟨j, hj, rfl, rfl, rfl⟩ := hrel
    by_cases hlt : j < a.size
    · have hlt2 : (j : Int) < a.size := by omega
      have HS := Aside0.mk (met_step a 123 j hlt 123 (by decide))
      obtain ⟨o, ho⟩ : ∃ o, met a 123 j = o := ⟨_, rfl⟩
      rw [ho] at HS ⊢
      clear ho
      go_wp2
      all_goals (refine ⟨⟨j + 1, by omega, by go_num, ?_, trivial⟩, by simp [intOf]; omega⟩)
      all_goals (rw [HS.out]; simp_all)
    · have hge : (a.size : Int) ≤ j := by omega
      obtain rfl : j = a.size := by omega
      obtain ⟨o1, ho1⟩ : ∃ o, met a 123 a.size = o := ⟨_, rfl⟩
      rw [ho1]
      have O1 := Aside0.mk ho1
      clear ho1
      go_wp2
      obtain ⟨w2, hw2⟩ : ∃ w2, w2 = wr := ⟨_, rfl⟩
      subst hw2
      go_loopw [6, 36] (fun o i wr => ∃ j : Nat, j ≤ z.size ∧ i = .int .i64 j ∧ o = .bool (met z 125 j) ∧ wr = w2) (fun _ i _ => z.size - (intOf i).toNat)
      case atStart => exact ⟨0, by omega, rfl, rfl, rfl⟩
      case round =>
        obtain ⟨j, hj, rfl, rfl, rfl⟩ := hrel
        by_cases hlt3 : j < z.size
        · have hlt2 : (j : Int) < z.size := by omega
          have HS := Aside0.mk (met_step z 125 j hlt3 125 (by decide))
          obtain ⟨o, ho⟩ : ∃ o, met z 125 j = o := ⟨_, rfl⟩
          rw [ho] at HS ⊢
          clear ho
          go_wp2
          all_goals (refine ⟨⟨j + 1, by omega, by go_num, ?_, trivial⟩, by simp [intOf]; omega⟩)
          all_goals (rw [HS.out]; simp_all)
        · have hge : (z.size : Int) ≤ j := by omega
          obtain rfl : j = z.size := by omega
          obtain ⟨o2, ho2⟩ : ∃ o, met z 125 z.size = o := ⟨_, rfl⟩
          rw [ho2]
          have O2 := Aside0.mk ho2
          clear ho2
          have hcv := conv_bytes
          obtain ⟨c, hc⟩ : ∃ c, crc 0 (nats (tagOf a)) = c := ⟨_, rfl⟩
          have R := Aside0.mk (show crc 0 (nats (tagOf a)) % 64 = c % 64 by rw [hc])
          have hcl : c < 65536 := by rw [← hc]; exact crc_lt _ 0 (by decide) (nats_lt _)
          obtain ⟨r, hr⟩ : ∃ r, c % 64 = r := ⟨_, rfl⟩
          rw [hr] at R
          have hrc : (c : Int) % 64 = r := by omega
          have htz := tagOf_size a
          have has : a.size < 4294967296 := by omega
          cases o1 with
          | true =>
            obtain ⟨t, ht⟩ : ∃ t, tagOf a = t := ⟨_, rfl⟩
            have HT := Aside0.mk ht
            rw [ht] at hc htz
            have C := Aside0.mk hc
            have hts : t.size < 4294967296 := by omega
            clear ht hc hr htz
            go_wp2_with (first
              | (go_at_call 12; with_reducible refine (new_h w _ HB.out).mono ?_; rintro e w2 ⟨b, rfl, hm, -, -⟩; have HM := Aside0.mk hm; clear hm)
              | (go_at_call 16; with_reducible refine (tag_h a _ has t HT.out).mono ?_; rintro e w3 ⟨rfl, hm⟩; have HM' := Aside0.mk (HM.out.same hm); clear hm HM; have HM := HM'; clear HM')
              | (go_at_call 18; with_reducible refine (slot_h w _ b HM.out a has r R.out).mono ?_; rintro e w5 ⟨rfl, hm, -⟩; have HM' := Aside0.mk hm; clear hm HM; have HM := HM'; clear HM')
              | (go_at_call 14; with_reducible refine (sum_h w _ b (HM.out.go (bw_below _ 5 t)) _ _ _ _ (bw_bytes _ 5 t hts) (fun ad e _ => by cases e; exact Nat.ne_of_gt HM.out.hh.lt) c C.out).mono ?_; rintro e w5 ⟨rfl, hm, -⟩; have HM' := Aside0.mk hm; clear hm HM; have HM := HM'; clear HM'))
            all_goals go_ret
            all_goals exact ⟨by simp [hrc], HM.out.bel⟩
          | false =>
            obtain ⟨t, ht0⟩ : ∃ t, t = a := ⟨_, rfl⟩
            have ht : tagOf a = a := tag_none a (met_all O1.out)
            have HT : Aside0 (tagOf a = a) := Aside0.mk ht
            rw [ht] at hc
            have C := Aside0.mk hc
            clear ht hc hr htz
            cases o2 with
            | true =>
              have e1 := key_empty a z (met_all O1.out)
              have E1 := Aside0.mk e1.1
              have E2 := Aside0.mk (show (a ++ ⟨#[123, 125]⟩ ++ z).size < 4294967296 by rw [e1.2]; omega)
              clear e1
              go_wp2_with (first
                | (go_at_call 12; with_reducible refine (new_h w _ HB.out).mono ?_; rintro e w2 ⟨b, rfl, hm, -, -⟩; have HM := Aside0.mk hm; clear hm)
                | (go_at_call 16; with_reducible refine (tag_h a _ has a HT.out).mono ?_; rintro e w3 ⟨rfl, hm⟩; have HM' := Aside0.mk (HM.out.same hm); clear hm HM; have HM := HM'; clear HM')
                | (go_at_call 16; with_reducible refine (tag_h _ _ E2.out _ E1.out).mono ?_; rintro e w3 ⟨rfl, hm⟩; have HM' := Aside0.mk (HM.out.same hm); clear hm HM; have HM := HM'; clear HM')
                | (go_at_call 18; with_reducible refine (slot_h w _ b HM.out a has r R.out).mono ?_; rintro e w5 ⟨rfl, hm, -⟩; have HM' := Aside0.mk hm; clear hm HM; have HM := HM'; clear HM')
                | (go_at_call 14; with_reducible refine (sum_h w _ b (HM.out.go (bw_below _ 5 a)) _ _ _ _ (bw_bytes _ 5 a has) (fun ad e _ => by cases e; exact Nat.ne_of_gt HM.out.hh.lt) c C.out).mono ?_; rintro e w5 ⟨rfl, hm, -⟩; have HM' := Aside0.mk hm; clear hm HM; have HM := HM'; clear HM'))
              all_goals go_ret
              all_goals exact ⟨by simp [hrc], HM.out.bel⟩
            | false =>
              have e1 := key_empty a z (met_all O1.out)
              have E1 := Aside0.mk e1.1
              have E2 := Aside0.mk (show (a ++ ⟨#[123, 125]⟩ ++ z).size < 4294967296 by rw [e1.2]; omega)
              clear e1
              have e3 := key_open a z (met_all O1.out) (met_all O2.out)
              have E3 := Aside0.mk e3.1
              have E4 := Aside0.mk (show (a ++ ⟨#[123]⟩ ++ z).size < 4294967296 by rw [e3.2]; omega)
              clear e3
              go_wp2_with (first
                | (go_at_call 12; with_reducible refine (new_h w _ HB.out).mono ?_; rintro e w2 ⟨b, rfl, hm, -, -⟩; have HM := Aside0.mk hm; clear hm)
                | (go_at_call 16; with_reducible refine (tag_h a _ has a HT.out).mono ?_; rintro e w3 ⟨rfl, hm⟩; have HM' := Aside0.mk (HM.out.same hm); clear hm HM; have HM := HM'; clear HM')
                | (go_at_call 16; with_reducible refine (tag_h _ _ E2.out _ E1.out).mono ?_; rintro e w3 ⟨rfl, hm⟩; have HM' := Aside0.mk (HM.out.same hm); clear hm HM; have HM := HM'; clear HM')
                | (go_at_call 16; with_reducible refine (tag_h _ _ E4.out _ E3.out).mono ?_; rintro e w3 ⟨rfl, hm⟩; have HM' := Aside0.mk (HM.out.same hm); clear hm HM; have HM := HM'; clear HM')
                | (go_at_call 18; with_reducible refine (slot_h w _ b HM.out a has r R.out).mono ?_; rintro e w5 ⟨rfl, hm, -⟩; have HM' := Aside0.mk hm; clear hm HM; have HM := HM'; clear HM')
                | (go_at_call 14; with_reducible refine (sum_h w _ b (HM.out.go (bw_below _ 5 a)) _ _ _ _ (bw_bytes _ 5 a has) (fun ad e _ => by cases e; exact Nat.ne_of_gt HM.out.hh.lt) c C.out).mono ?_; rintro e w5 ⟨rfl, hm, -⟩; have HM' := Aside0.mk hm; clear hm HM; have HM := HM'; clear HM'))
              all_goals go_ret
              all_goals exact ⟨by simp [hrc], HM.out.bel⟩
theorem whole_calls (a z : ByteArray) (w : World) (ha : a.size ≤ maxLen) (hz : z.size ≤ maxLen) : Calls Try.prog 10 #[.string a, .string z] w fun e w' => e = .returned (.bool true) ∧ Below w.heap.size w w' := by
  unfold maxLen at ha hz
  by_cases h1 : a.size ≤ 300
  · by_cases h2 : z.size ≤ 300
    · exact whole_in a z w h1 h2
    · go_enter Try.func10, Try.ntmps10
      go_wp2_with (go_at_call 11; with_reducible refine (anchor_c _).mono ?_; rintro e w1 ⟨rfl, hb⟩; have HB := Aside0.mk hb; clear hb)
      go_ret
      exact ⟨rfl, HB.out⟩
  · go_enter Try.func10, Try.ntmps10
    go_wp2_with (go_at_call 11; with_reducible refine (anchor_c _).mono ?_; rintro e w1 ⟨rfl, hb⟩; have HB := Aside0.mk hb; clear hb)
    go_ret
    exact ⟨rfl, HB.out⟩
end Go.Proofs.Ytjgickfndcfgfaa.HandS
