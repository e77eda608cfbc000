/- MeterApart by hand: a counter counts its own kind alone; a count that is refused changes none. -/
import Derived.Test.YtblibjnhldocaaaHandA
namespace Go.Proofs.Ytblibjnhldocaaa.HandM
open Go.RowKit
set_option linter.unusedVariables false
set_option linter.unusedSimpArgs false
/-- What a count adds. -/
def gain (k n : Int) : Int := if okC k n then n else 0
theorem counted_len (cs : List Int) (k n : Int) (h : cs.length = 16) : (counted cs k n).length = 16 := by
  unfold counted
  split
  · rw [List.length_set]; exact h
  · exact h
theorem getD_set (cs : List Int) (j i : Nat) (y : Int) (hj : j < cs.length) : (cs.set j y).getD i 0 = if j = i then y else cs.getD i 0 := by
  rw [List.getD_eq_getElem?_getD, List.getD_eq_getElem?_getD]
  by_cases e : j = i
  · subst e
    rw [if_pos rfl, List.getElem?_set_self hj]
    rfl
  · rw [if_neg e, List.getElem?_set_ne e]
theorem got_own (cs : List Int) (k n : Int) (h : cs.length = 16) : got (counted cs k n) k = got cs k + gain k n := by
  unfold counted gain
  by_cases hk : okC k n
  · rw [if_pos hk, if_pos hk]
    obtain ⟨h1, h2, _, _⟩ := hk
    unfold got
    rw [if_pos ⟨h1, h2⟩, if_pos ⟨h1, h2⟩, getD_set _ _ _ _ (by omega), if_pos rfl]
  · rw [if_neg hk, if_neg hk, Int.add_zero]
theorem got_other (cs : List Int) (k n k' : Int) (h : cs.length = 16) (hne : k ≠ k') : got (counted cs k n) k' = got cs k' := by
  unfold counted
  by_cases hk : okC k n
  · rw [if_pos hk]
    obtain ⟨h1, h2, _, _⟩ := hk
    unfold got
    by_cases hk' : 0 ≤ k' ∧ k' < 16
    · rw [if_pos hk', if_pos hk', getD_set _ _ _ _ (by omega), if_neg (by omega)]
    · rw [if_neg hk', if_neg hk']
  · rw [if_neg hk]
theorem upto_set (cs : List Int) (j : Nat) (y : Int) (hj : j < cs.length) (i : Nat) : upto (fun x => x) (cs.set j y) i = upto (fun x => x) cs i + (if j < i then y - cs.getD j 0 else 0) := by
  induction i with
  | zero => simp [upto]
  | succ i ih =>
    simp only [upto]
    rw [ih, getD_set cs j i y hj]
    by_cases e : j = i
    · subst e
      rw [if_pos rfl, if_neg (by omega), if_pos (by omega)]
      omega
    · rw [if_neg e]
      by_cases g : j < i
      · rw [if_pos g, if_pos (by omega)]
        omega
      · rw [if_neg g, if_neg (by omega)]
        omega
theorem sum_counted (cs : List Int) (k n : Int) (h : cs.length = 16) : sumC (counted cs k n) = sumC cs + gain k n := by
  unfold counted gain
  by_cases hk : okC k n
  · rw [if_pos hk, if_pos hk]
    obtain ⟨h1, h2, _, _⟩ := hk
    unfold sumC
    rw [upto_set _ _ _ (by omega), if_pos (by omega)]
    omega
  · rw [if_neg hk, if_neg hk, Int.add_zero]
theorem gain_nonneg (k n : Int) : 0 ≤ gain k n ∧ gain k n ≤ 4294967296 := by
  unfold gain
  split
  · rename_i h
    exact ⟨h.2.2.1, h.2.2.2⟩
  · omega
theorem got_zeros (k : Int) : got zeros k = 0 := by
  unfold got
  split
  · have := small_zeros k.toNat
    omega
  · rfl
theorem sum_zeros : sumC zeros = 0 := by decide +kernel
theorem Small.counted' {cs : List Int} {m m' : Int} (h : Small cs m) (k n : Int) (hm : m + 4294967296 ≤ m') : Small (HandM.counted cs k n) m' := by
  by_cases hk : okC k n
  · exact h.counted k n (by have := hk.2.2.2; omega) (by omega)
  · unfold HandM.counted
    rw [if_neg hk]
    exact h.mono (by omega)
set_option maxRecDepth 100000 in
set_option maxHeartbeats 8000000 in
theorem apart_calls (kind n other more : Int) (w : World) : Calls Try.prog 6 #[.int .i64 kind, .int .i64 n, .int .i64 other, .int .i64 more] w fun e w' => e = .returned (.bool true) ∧ Below w.heap.size w w' := by
  have s0 := small_zeros.mono (m' := 4611686014132420608) (by decide)
  have s1 := small_zeros.counted' kind n (m' := 4294967296) (by decide)
  have l1 := counted_len zeros kind n rfl
  have s2 := s1.counted' kind more (m' := 8589934592) (by decide)
  have l2 := counted_len _ kind more l1
  have t2 := (sum_counted _ kind more l1).trans (congrArg (· + gain kind more) (sum_counted zeros kind n rfl))
  have g2 := (got_own _ kind more l1).trans (congrArg (· + gain kind more) (got_own zeros kind n rfl))
  have go2 := fun hne => got_other _ kind more other l1 hne
  simp only [sum_zeros, got_zeros, Int.zero_add] at t2 g2
  have b1 := gain_nonneg kind n
  have b2 := gain_nonneg kind more
  unfold gain at t2 g2 b1 b2
  obtain ⟨c1, hc1⟩ : ∃ c1, counted zeros kind n = c1 := ⟨_, rfl⟩
  rw [hc1] at s1 l1 s2 l2 t2 g2 go2
  obtain ⟨c2, hc2⟩ : ∃ c2, counted c1 kind more = c2 := ⟨_, rfl⟩
  rw [hc2] at s2 l2 t2 g2 go2
  obtain ⟨x, hx⟩ : ∃ x, got c1 other = x := ⟨_, rfl⟩
  have S0 := Aside0.mk s0
  have S1 := Aside0.mk (s1.mono (m' := 4611686014132420608) (by decide))
  have S2 := Aside0.mk (fun (k : Nat) (_ : k < 16) => (s2 k).1)
  have C1 := Aside0.mk hc1
  have C2 := Aside0.mk hc2
  have X := Aside0.mk hx
  have G := Aside0.mk go2
  clear s0 s1 s2 l1 l2 hc1 hc2 hx go2
  have main : ∀ (a b : Bool), decide (okC kind n) = a → decide (okC kind more) = b → ∀ z v : Int, got c2 kind = z → sumC c2 = z → z = (if a = true then n else 0) + (if b = true then more else 0) → (0 ≤ (if a = true then n else 0) ∧ (if a = true then n else 0) ≤ 4294967296) → (0 ≤ (if b = true then more else 0) ∧ (if b = true then more else 0) ≤ 4294967296) → Calls Try.prog 6 #[.int .i64 kind, .int .i64 n, .int .i64 other, .int .i64 more] w fun e w' => e = .returned (.bool true) ∧ Below w.heap.size w w' := by
    intro a b ha hb z v hz ht hzv q1 q2
    have A := Aside0.mk ha
    have B := Aside0.mk hb
    have Z := Aside0.mk hz
    have hsum : sumC c2 ≤ 2305843009213693952 := by rw [ht]; omega
    have T := Aside0.mk ht
    have HS := Aside0.mk hsum
    clear ha hb hz ht hsum t2 g2 b1 b2
    by_cases hko : kind = other
    · subst hko
      cases a <;> cases b <;> simp at hzv q1 q2
      all_goals (
        go_enter Try.func6, Try.ntmps6
        go_wp2_with (first
    | (go_at_call 9; with_reducible refine (anchor_c _).mono ?_; rintro e w1 ⟨rfl, hb⟩; have HB := Aside0.mk hb; clear hb)
    | (go_at_call 10; with_reducible refine (new_my w _ HB.out).mono ?_; rintro e w1 ⟨b, rfl, hm, -, -⟩; have HM := Aside0.mk hm; clear hm)
    | (go_at_call 13; with_reducible refine (count_my w b zeros 0 0 kind n _ HM.out _ A.out c1 C1.out S0.out).mono ?_; rintro e w1 ⟨rfl, hm, -⟩; have HM' := Aside0.mk hm; clear hm HM; have HM := HM'; clear HM')
    | (go_at_call 13; with_reducible refine (count_my w b c1 0 0 kind more _ HM.out _ B.out c2 C2.out S1.out).mono ?_; rintro e w1 ⟨rfl, hm, -⟩; have HM' := Aside0.mk hm; clear hm HM; have HM := HM'; clear HM')
    | (go_at_call 14; with_reducible refine (get_my w b c1 0 0 0 kind _ HM.out x X.out).mono ?_; rintro e w1 ⟨rfl, rfl⟩)
    | (go_at_call 14; with_reducible refine (get_my w b c2 0 0 0 kind _ HM.out z Z.out).mono ?_; rintro e w1 ⟨rfl, rfl⟩)
    | (go_at_call 15; with_reducible refine (total_my w b c2 0 0 0 _ HM.out S2.out HS.out).mono ?_; rintro e w1 ⟨rfl, rfl⟩; rw [T.out]))
        go_ret
        refine ⟨?_, HM.out.bel⟩
        simp [hzv])
    · have HK := Aside0.mk hko
      have hko' : (kind == other) = false := beq_eq_false_iff_ne.mpr hko
      have hko2 : (kind != other) = true := by simp [hko]
      cases a <;> cases b <;> simp at hzv q1 q2
      all_goals (
        go_enter Try.func6, Try.ntmps6
        go_wp2_with (first
    | (go_at_call 9; with_reducible refine (anchor_c _).mono ?_; rintro e w1 ⟨rfl, hb⟩; have HB := Aside0.mk hb; clear hb)
    | (go_at_call 10; with_reducible refine (new_my w _ HB.out).mono ?_; rintro e w1 ⟨b, rfl, hm, -, -⟩; have HM := Aside0.mk hm; clear hm)
    | (go_at_call 13; with_reducible refine (count_my w b zeros 0 0 kind n _ HM.out _ A.out c1 C1.out S0.out).mono ?_; rintro e w1 ⟨rfl, hm, -⟩; have HM' := Aside0.mk hm; clear hm HM; have HM := HM'; clear HM')
    | (go_at_call 13; with_reducible refine (count_my w b c1 0 0 kind more _ HM.out _ B.out c2 C2.out S1.out).mono ?_; rintro e w1 ⟨rfl, hm, -⟩; have HM' := Aside0.mk hm; clear hm HM; have HM := HM'; clear HM')
    | (go_at_call 14; with_reducible refine (get_my w b c1 0 0 0 other _ HM.out x X.out).mono ?_; rintro e w1 ⟨rfl, rfl⟩)
    | (go_at_call 14; with_reducible refine (get_my w b c2 0 0 0 other _ HM.out x ((G.out HK.out).trans X.out)).mono ?_; rintro e w1 ⟨rfl, rfl⟩)
    | (go_at_call 14; with_reducible refine (get_my w b c2 0 0 0 kind _ HM.out z Z.out).mono ?_; rintro e w1 ⟨rfl, rfl⟩)
    | (go_at_call 15; with_reducible refine (total_my w b c2 0 0 0 _ HM.out S2.out HS.out).mono ?_; rintro e w1 ⟨rfl, rfl⟩; rw [T.out]))
        go_ret
        refine ⟨?_, HM.out.bel⟩
        simp [hzv])
  refine main _ _ rfl rfl _ 0 rfl (t2.trans g2.symm) ?_ ?_ ?_
  · rw [g2]; simp only [decide_eq_true_eq]
  · simpa only [decide_eq_true_eq] using b1
  · simpa only [decide_eq_true_eq] using b2
end Go.Proofs.Ytblibjnhldocaaa.HandM
