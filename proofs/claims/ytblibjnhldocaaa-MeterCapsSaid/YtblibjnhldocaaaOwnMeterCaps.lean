/- MeterCaps by hand. -/
import Derived.Test.YtblibjnhldocaaaHandL
namespace Go.Proofs.Ytblibjnhldocaaa.HandM
open Go.RowKit
set_option linter.unusedVariables false
set_option linter.unusedSimpArgs false
/-- The meter's counts behind j rounds. -/
structure Capped (cs : List Int) (kind n : Int) (j : Nat) : Prop where
  len : cs.length = 16
  got : got cs kind = (j : Int) * n
  sum : sumC cs = 2 * (j : Int) * n
  small : Small cs ((j : Int) * 8589934592)
theorem capped_zero (kind n : Int) : Capped zeros kind n 0 := ⟨rfl, by rw [got_zeros]; simp, by rw [sum_zeros]; simp, by simpa using small_zeros⟩
theorem Capped.next {cs : List Int} {kind n : Int} {j : Nat} (h : Capped cs kind n j) (h1 : okC kind n) : Capped (counted (counted cs kind n) ((kind + 1) % 16) n) kind n (j + 1) := by
  have h0 := h1
  obtain ⟨g0, g1, g2, g3⟩ := h1
  have h2 : okC ((kind + 1) % 16) n := ⟨by omega, by omega, g2, g3⟩
  have e : ((j + 1 : Nat) : Int) * n = (j : Int) * n + n := by rw [Int.natCast_add, Int.add_mul]; simp
  have e2 : 2 * ((j + 1 : Nat) : Int) * n = 2 * (j : Int) * n + n + n := by
    rw [Int.mul_assoc, e, Int.mul_assoc]; omega
  refine ⟨counted_len _ _ _ (counted_len _ _ _ h.len), ?_, ?_, ?_⟩
  · rw [got_other _ _ _ _ (counted_len _ _ _ h.len) (by omega), got_own _ _ _ h.len, h.got, e]
    unfold gain
    rw [if_pos h0]
  · rw [sum_counted _ _ _ (counted_len _ _ _ h.len), sum_counted _ _ _ h.len, h.sum, e2]
    unfold gain
    rw [if_pos h0, if_pos h2]
  · exact (h.small.counted' kind n (Int.le_refl _)).counted' _ _ (by omega)
set_option maxRecDepth 100000 in
set_option maxHeartbeats 8000000 in
theorem caps_in (kind n : Int) (t : Nat) (h0 : 0 ≤ kind) (h1 : kind ≤ 15) (h2 : (t : Int) ≤ 100) (h3 : 0 ≤ n) (h4 : n ≤ 4294967296) (w : World) : Calls Try.prog 4 #[.int .i64 kind, .int .i64 t, .int .i64 n] w fun e w' => e = .returned (.bool true) ∧ Below w.heap.size w w' := by
  have OK := Aside0.mk (show okC kind n from ⟨h0, by omega, h3, h4⟩)
  have OK2 := Aside0.mk (show okC ((kind + 1) % 16) n from ⟨by omega, by omega, h3, h4⟩)
  have p1 : 0 ≤ (t : Int) * n := Int.mul_nonneg (by omega) h3
  have p2 : (t : Int) * n ≤ 429496729600 := Int.le_trans (Int.mul_le_mul h2 h4 h3 (by omega)) (by decide)
  have p3 : 2 * (t : Int) * n = 2 * ((t : Int) * n) := Int.mul_assoc _ _ _
  have p4 : 0 ≤ 2 * (t : Int) * n := by omega
  have p5 : 2 * (t : Int) * n ≤ 858993459200 := by omega
  have P3 := Aside0.mk p3
  clear p3
  go_enter Try.func4, Try.ntmps4
  go_wp2_with (first
    | (go_at_call 9; with_reducible refine (anchor_c _).mono ?_; rintro e w1 ⟨rfl, hb⟩; have HB := Aside0.mk hb; clear hb)
    | (go_at_call 10; with_reducible refine (new_my w _ HB.out).mono ?_; rintro e w1 ⟨b, rfl, hm, -, -⟩; have HM := Aside0.mk hm; clear hm))
  go_loopw [34] (fun i wr => ∃ (j : Nat) (cs : List Int), j ≤ t ∧ i = .int .i64 j ∧ My w wr b cs 0 0 0 ∧ Capped cs kind n j) (fun i _ => t - (intOf i).toNat)
  case atStart => exact ⟨0, zeros, by omega, rfl, HM.out, capped_zero kind n⟩
  case round =>
    obtain ⟨j, cs, hj, rfl, hM, hC⟩ := hrel
    by_cases hlt : j < t
    · have hlt2 : (j : Int) < t := by omega
      have s0 := hC.small
      have hC2 := hC.next OK.out
      have s1 := hC.small.counted' kind n (Int.le_refl _)
      obtain ⟨c1, hc1⟩ : ∃ c1, counted cs kind n = c1 := ⟨_, rfl⟩
      rw [hc1] at hC2 s1
      obtain ⟨c2, hc2⟩ : ∃ c2, counted c1 ((kind + 1) % 16) n = c2 := ⟨_, rfl⟩
      rw [hc2] at hC2
      have S0 := Aside0.mk (s0.mono (m' := 4611686014132420608) (by omega))
      have S1 := Aside0.mk (s1.mono (m' := 4611686014132420608) (by omega))
      have HM := Aside0.mk hM
      have C1 := Aside0.mk hc1
      have C2 := Aside0.mk hc2
      have HC := Aside0.mk hC2
      clear hM hC hC2 hc1 hc2 s0 s1
      go_wp2_with (first
        | (go_at_call 13; with_reducible refine (count_my w b cs 0 0 kind n _ HM.out true (decide_eq_true OK.out) c1 C1.out S0.out).mono ?_; rintro e w1 ⟨rfl, hm, -⟩; have HM' := Aside0.mk hm; clear hm HM; have HM := HM'; clear HM')
        | (go_at_call 13; with_reducible refine (count_my w b c1 0 0 ((kind + 1) % 16) n _ HM.out true (decide_eq_true OK2.out) c2 C2.out S1.out).mono ?_; rintro e w1 ⟨rfl, hm, -⟩; have HM' := Aside0.mk hm; clear hm HM; have HM := HM'; clear HM'))
      go_roundw
      case rel => exact ⟨j + 1, c2, by omega, by go_num, HM.out, HC.out⟩
      case measure => simp [intOf]; omega
    · have hge : (t : Int) ≤ j := by omega
      obtain rfl : j = t := by omega
      have S2 := Aside0.mk (fun (k : Nat) (_ : k < 16) => (hC.small k).1)
      have hsum : sumC cs ≤ 2305843009213693952 := by rw [hC.sum]; omega
      have HS := Aside0.mk hsum
      have HC := Aside0.mk hC
      have HM := Aside0.mk hM
      clear hM hC hsum
      go_wp2_with (first
        | (go_at_call 14; with_reducible refine (get_my w b cs 0 0 0 kind _ HM.out _ HC.out.got).mono ?_; rintro e w1 ⟨rfl, rfl⟩)
        | (go_at_call 15; with_reducible refine (total_my w b cs 0 0 0 _ HM.out S2.out HS.out).mono ?_; rintro e w1 ⟨rfl, rfl⟩; rw [HC.out.sum])
        | (go_at_call 12; with_reducible refine (high_my w b cs 0 0 0 _ HM.out).mono ?_; rintro e w1 ⟨rfl, rfl⟩))
      go_ret
      refine ⟨?_, HM.out.bel⟩
      simp
theorem caps_out (kind times n : Int) (h : kind < 0 ∨ (0 ≤ kind ∧ 15 < kind) ∨ (0 ≤ kind ∧ kind ≤ 15 ∧ times < 0) ∨ (0 ≤ kind ∧ kind ≤ 15 ∧ 0 ≤ times ∧ 100 < times) ∨ (0 ≤ kind ∧ kind ≤ 15 ∧ 0 ≤ times ∧ times ≤ 100 ∧ n < 0) ∨ (0 ≤ kind ∧ kind ≤ 15 ∧ 0 ≤ times ∧ times ≤ 100 ∧ 0 ≤ n ∧ 4294967296 < n)) (w : World) : Calls Try.prog 4 #[.int .i64 kind, .int .i64 times, .int .i64 n] w fun e w' => e = .returned (.bool true) ∧ Below w.heap.size w w' := by
  rcases h with g | ⟨g, g1⟩ | ⟨g, g1, g2⟩ | ⟨g, g1, g2, g3⟩ | ⟨g, g1, g2, g3, g4⟩ | ⟨g, g1, g2, g3, g4, g5⟩
  all_goals (go_enter Try.func4, Try.ntmps4)
  all_goals (go_wp2_with (go_at_call 9; with_reducible refine (anchor_c _).mono ?_; rintro e w1 ⟨rfl, hb⟩; have HB := Aside0.mk hb; clear hb))
  all_goals (go_ret; exact ⟨rfl, HB.out⟩)
theorem caps_calls (kind times n : Int) (w : World) : Calls Try.prog 4 #[.int .i64 kind, .int .i64 times, .int .i64 n] w fun e w' => e = .returned (.bool true) ∧ Below w.heap.size w w' := by
  by_cases h : 0 ≤ kind ∧ kind ≤ 15 ∧ 0 ≤ times ∧ times ≤ 100 ∧ 0 ≤ n ∧ n ≤ 4294967296
  · obtain ⟨h0, h1, h2, h3, h4, h5⟩ := h
    obtain ⟨t, rfl⟩ : ∃ t : Nat, times = t := ⟨times.toNat, by omega⟩
    exact caps_in kind n t h0 h1 h3 h4 h5 w
  · exact caps_out kind times n (by omega) w
end Go.Proofs.Ytblibjnhldocaaa.HandM
