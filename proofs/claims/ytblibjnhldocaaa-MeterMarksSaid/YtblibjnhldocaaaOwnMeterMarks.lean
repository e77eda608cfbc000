/- MeterMarks by hand. -/
import Derived.Test.YtblibjnhldocaaaHandL
namespace Go.Proofs.Ytblibjnhldocaaa.HandM
open Go.RowKit
set_option linter.unusedVariables false
set_option linter.unusedSimpArgs false
set_option maxRecDepth 100000 in
set_option maxHeartbeats 8000000 in
theorem marks_calls (a : Option Addr) (cap : Nat) (l : List Int) (len : Nat) (w : World) (s : Ints w a len l) : Calls Try.prog 3 #[.slice a len cap] w fun e w' => e = .returned (.bool true) ∧ Below w.heap.size w w' := by
  have HL := Aside0.mk s
  have hlen := s.2.1
  clear s
  by_cases h300 : len ≤ 300
  · go_enter Try.func3, Try.ntmps3
    go_wp2_with (first
      | (go_at_call 9; with_reducible refine (anchor_c _).mono ?_; rintro e w1 ⟨rfl, hb⟩; have HB := Aside0.mk hb; clear hb)
      | (go_at_call 10; with_reducible refine (new_my w _ HB.out).mono ?_; rintro e w1 ⟨b, rfl, hm, -, -⟩; have HM := Aside0.mk hm; clear hm))
    go_loopw [4, 15] (fun high i wr => ∃ (j : Nat) (hi : Int), j ≤ len ∧ i = .int .i64 j ∧ high = .int .i64 hi ∧ My w wr b zeros hi 0 0) (fun _ i _ => len - (intOf i).toNat)
    case atStart => exact ⟨0, 0, by omega, rfl, rfl, HM.out⟩
    case round =>
      obtain ⟨j, hi, hj, rfl, rfl, hM⟩ := hrel
      have HM := Aside0.mk hM
      clear hM
      by_cases hlt : j < len
      · obtain ⟨ad, hA, hc⟩ := HL.out.at hlt
        subst hA
        obtain ⟨n, hn⟩ : ∃ n, l.getD j 0 = n := ⟨_, rfl⟩
        rw [hn] at hc
        have c := (HM.out.bel.cell (World.block_lt_of_cell? w _ hc)).trans hc
        clear hc hn
        have hlt2 : (j : Int) < len := by omega
        by_cases hhi : hi < n
        · go_wp2_with (first
            | (go_at_call 11; with_reducible refine (mark_my w b zeros hi 0 n _ HM.out true (decide_eq_true hhi) n (by omega)).mono ?_; rintro e w1 ⟨rfl, hm, -⟩; have HM' := Aside0.mk hm; clear hm HM; have HM := HM'; clear HM')
            | (go_at_call 12; with_reducible refine (high_my w b zeros n 0 0 _ HM.out).mono ?_; rintro e w1 ⟨rfl, rfl⟩))
          go_roundw
          case rel => exact ⟨j + 1, n, by omega, by go_num, rfl, HM.out⟩
          case measure => simp [intOf]; omega
        · have hhi' : n ≤ hi := by omega
          go_wp2_with (first
            | (go_at_call 11; with_reducible refine (mark_my w b zeros hi 0 n _ HM.out false (decide_eq_false hhi) hi (by omega)).mono ?_; rintro e w1 ⟨rfl, hm, -⟩; have HM' := Aside0.mk hm; clear hm HM; have HM := HM'; clear HM')
            | (go_at_call 12; with_reducible refine (high_my w b zeros hi 0 0 _ HM.out).mono ?_; rintro e w1 ⟨rfl, rfl⟩))
          go_roundw
          case rel => exact ⟨j + 1, hi, by omega, by go_num, rfl, HM.out⟩
          case measure => simp [intOf]; omega
      · have hge : (len : Int) ≤ j := by omega
        go_wp2
        go_ret
        exact ⟨rfl, HM.out.bel⟩
  · go_enter Try.func3, Try.ntmps3
    go_wp2_with (first
      | (go_at_call 9; with_reducible refine (anchor_c _).mono ?_; rintro e w1 ⟨rfl, hb⟩; have HB := Aside0.mk hb; clear hb))
    go_ret
    exact ⟨rfl, HB.out⟩
end Go.Proofs.Ytblibjnhldocaaa.HandM
