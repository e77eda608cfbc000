/- MeterCloses by hand. -/
import Derived.Test.YtblibjnhldocaaaHandD
namespace Go.Proofs.Ytblibjnhldocaaa.HandM
open Go.RowKit
set_option linter.unusedVariables false
set_option linter.unusedSimpArgs false
set_option maxRecDepth 100000 in
set_option maxHeartbeats 8000000 in
theorem closes_in (a : Option Addr) (cap : Nat) (l : List Int) (len : Nat) (kind n : Int) (w : World) (s : Ints w a len l) (h100 : len ≤ 100) (r : Bool) (hr : decide (okC kind n) = r) (c1 : List Int) (hc1 : counted zeros kind n = c1) (c2 : List Int) (hc2 : counted c1 kind n = c2) (g : Int) (hg : got c1 kind = g) : Calls Try.prog 7 #[.slice a len cap, .int .i64 kind, .int .i64 n] w fun e w' => e = .returned (.bool true) ∧ Below w.heap.size w w' := by
  have HL := Aside0.mk s
  have R := Aside0.mk hr
  have C1 := Aside0.mk hc1
  have C2 := Aside0.mk hc2
  have G := Aside0.mk hg
  have S0 := Aside0.mk (small_zeros.mono (m' := 4611686014132420608) (by decide))
  have s1 := small_zeros.counted' kind n (m' := 4611686014132420608) (by decide)
  rw [hc1] at s1
  have S1 := Aside0.mk s1
  clear s hr hc1 hc2 hg s1
  go_enter Try.func7, Try.ntmps7
  go_wp2_with (first
    | (go_at_call 9; with_reducible refine (anchor_c _).mono ?_; rintro e w1 ⟨rfl, hb⟩; have HB := Aside0.mk hb; clear hb)
    | (go_at_call 10; with_reducible refine (new_my w _ HB.out).mono ?_; rintro e w1 ⟨b, rfl, hm, -, -⟩; have HM := Aside0.mk hm; clear hm)
    | (go_at_call 13; with_reducible refine (count_my w b zeros 0 0 kind n _ HM.out r R.out c1 C1.out S0.out).mono ?_; rintro e w1 ⟨rfl, hm, -⟩; have HM' := Aside0.mk hm; clear hm HM; have HM := HM'; clear HM')
    | (go_at_call 14; with_reducible refine (get_my w b c1 0 0 0 kind _ HM.out g G.out).mono ?_; rintro e w1 ⟨rfl, rfl⟩))
  go_loopw [29] (fun i wr => ∃ j : Nat, j ≤ len ∧ i = .int .i64 j ∧ (j = 0 → My w wr b c1 0 0 0) ∧ (0 < j → My w wr b c1 0 1 (l.getD 0 0))) (fun i _ => len - (intOf i).toNat)
  case atStart => exact ⟨0, by omega, rfl, fun _ => HM.out, fun h => absurd h (by omega)⟩
  case round =>
    obtain ⟨j, hj, rfl, hM0, hM1⟩ := hrel
    by_cases hlt : j < len
    · obtain ⟨ad, hA, hc⟩ := HL.out.at hlt
      subst hA
      have hlt2 : (j : Int) < len := by omega
      obtain ⟨x, hx⟩ : ∃ x, l.getD j 0 = x := ⟨_, rfl⟩
      rw [hx] at hc
      by_cases hj0 : j = 0
      · have HM := Aside0.mk (hM0 hj0)
        have c := (HM.out.bel.cell (World.block_lt_of_cell? w _ hc)).trans hc
        have hjb : ((j : Int) == 0) = true := by simp [hj0]
        have HX := Aside0.mk (show l.getD 0 0 = x by rw [← hj0]; exact hx)
        clear hM0 hM1 hc hx hj0
        go_wp2_with (go_at_call 16; with_reducible refine (close_my w b c1 0 0 x _ HM.out).mono ?_; rintro e w1 ⟨rfl, hm, -⟩; have HM' := Aside0.mk hm; clear hm HM; have HM := HM'; clear HM')
        go_roundw
        case rel => exact ⟨j + 1, by omega, by go_num, fun h => absurd h (by omega), fun _ => HX.out ▸ HM.out⟩
        case measure => simp [intOf]; omega
      · have HM := Aside0.mk (hM1 (by omega))
        have c := (HM.out.bel.cell (World.block_lt_of_cell? w _ hc)).trans hc
        have hjb : ((j : Int) == 0) = false := by simp [hj0]
        obtain ⟨y, hy⟩ : ∃ y, l.getD 0 0 = y := ⟨_, rfl⟩
        rw [hy] at HM
        have HY := Aside0.mk hy
        clear hM0 hM1 hc hx hj0 hy
        go_wp2_with (go_at_call 16; with_reducible refine (reclose_my w b c1 0 y x _ HM.out).mono ?_; rintro e w1 ⟨rfl, hm, -⟩; have HM' := Aside0.mk hm; clear hm HM; have HM := HM'; clear HM')
        go_roundw
        case rel => exact ⟨j + 1, by omega, by go_num, fun h => absurd h (by omega), fun _ => HY.out ▸ HM.out⟩
        case measure => simp [intOf]; omega
    · have hge : (len : Int) ≤ j := by omega
      by_cases hl0 : len = 0
      · have HM := Aside0.mk (hM0 (by omega))
        have hlb : ((len : Int) == 0) = true := by simp [hl0]
        clear hM0 hM1 hl0
        go_wp2_with (first
          | (go_at_call 17; with_reducible refine (open_my w b c1 0 0 _ HM.out).mono ?_; rintro e w1 ⟨rfl, rfl⟩)
          | (go_at_call 13; with_reducible refine (count_my w b c1 0 0 kind n _ HM.out r R.out c2 C2.out S1.out).mono ?_; rintro e w1 ⟨rfl, hm, -⟩; have HM' := Aside0.mk hm; clear hm HM; have HM := HM'; clear HM'))
        go_ret
        refine ⟨?_, HM.out.bel⟩
        simp
      · have HM := Aside0.mk (hM1 (by omega))
        have hlb : ((len : Int) == 0) = false := by simp [hl0]
        obtain ⟨ad, hA, hc⟩ := HL.out.at (i := 0) (by omega)
        subst hA
        obtain ⟨y, hy⟩ : ∃ y, l.getD 0 0 = y := ⟨_, rfl⟩
        rw [hy] at HM hc
        have hc' : w.cell? ad = some (.int .i64 y) := hc
        have F := Aside0.mk (fun (W : World) (h : Below w.heap.size w W) => (h.cell (World.block_lt_of_cell? w _ hc')).trans hc')
        have hl1 : (0 : Int) < len := by omega
        clear hM0 hM1 hl0 hc hc' hy
        go_wp2_with (first
          | (go_at_call 17; with_reducible refine (shut_my w b c1 0 y _ HM.out).mono ?_; rintro e w1 ⟨rfl, rfl⟩; have c := F.out _ HM.out.bel)
          | (go_at_call 13; with_reducible refine (count_no w b c1 0 y kind n _ HM.out).mono ?_; rintro e w1 ⟨rfl, hm, -⟩; have HM' := Aside0.mk hm; clear hm HM; have HM := HM'; clear HM')
          | (go_at_call 11; with_reducible refine (mark_no w b c1 0 y _ _ HM.out).mono ?_; rintro e w1 ⟨rfl, hm, -⟩; have HM' := Aside0.mk hm; clear hm HM; have HM := HM'; clear HM')
          | (go_at_call 14; with_reducible refine (get_my w b c1 0 1 y kind _ HM.out g G.out).mono ?_; rintro e w1 ⟨rfl, rfl⟩)
          | (go_at_call 12; with_reducible refine (high_my w b c1 0 1 y _ HM.out).mono ?_; rintro e w1 ⟨rfl, rfl⟩))
        go_ret
        refine ⟨?_, HM.out.bel⟩
        simp
theorem closes_calls (a : Option Addr) (cap : Nat) (l : List Int) (len : Nat) (kind n : Int) (w : World) (s : Ints w a len l) : Calls Try.prog 7 #[.slice a len cap, .int .i64 kind, .int .i64 n] w fun e w' => e = .returned (.bool true) ∧ Below w.heap.size w w' := by
  by_cases h100 : len ≤ 100
  · exact closes_in a cap l len kind n w s h100 _ rfl _ rfl _ rfl _ rfl
  · have hlen := s.2.1
    clear s
    go_enter Try.func7, Try.ntmps7
    go_wp2_with (go_at_call 9; with_reducible refine (anchor_c _).mono ?_; rintro e w1 ⟨rfl, hb⟩; have HB := Aside0.mk hb; clear hb)
    go_ret
    exact ⟨rfl, HB.out⟩
end Go.Proofs.Ytblibjnhldocaaa.HandM
