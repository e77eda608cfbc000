/- The examples of meter's laws; MeterMarks, MeterApart, by hand. -/
import Derived.Test.YtblibjnhldocaaaHandT
namespace Go.Proofs.Ytblibjnhldocaaa.HandM
open Go.RowKit
set_option linter.unusedVariables false
set_option linter.unusedSimpArgs false
/-- A meter of the call's own: block b is new since w0. -/
structure My (w0 w : World) (b : Nat) (cs : List Int) (hi cl rs : Int) : Prop where
  mt : Mt w b cs hi cl rs
  new : w0.heap.size ≤ b
  bel : Below w0.heap.size w0 w
theorem My.step {w0 w w' : World} {b : Nat} {cs cs' : List Int} {hi cl rs hi' cl' rs' : Int} (h : My w0 w b cs hi cl rs) (m : Mt w' b cs' hi' cl' rs') (n : Near b w w') : My w0 w' b cs' hi' cl' rs' :=
  ⟨m, h.new, n.to h.bel h.new (Nat.le_refl _)⟩
theorem My.beside {w0 w w' : World} {b b2 : Nat} {cs : List Int} {hi cl rs : Int} (h : My w0 w b cs hi cl rs) (n : Near b2 w w') (h2 : w0.heap.size ≤ b2) (hne : b ≠ b2) : My w0 w' b cs hi cl rs :=
  ⟨h.mt.near n hne, h.new, n.to h.bel h2 (Nat.le_refl _)⟩
theorem new_my (w0 w : World) (h : Below w0.heap.size w0 w) : Calls Try.prog 10 #[] w fun e w' => ∃ b, e = .returned (.pointer (some ⟨b, 0, none⟩)) ∧ My w0 w' b zeros 0 0 0 ∧ Below w.heap.size w w' ∧ b = w.heap.size :=
  (new_c w).mono fun e w' ⟨h1, h2, h3⟩ => ⟨w.heap.size, h1, ⟨h2, h.size, h.trans (h3.mono h.size)⟩, h3, rfl⟩
theorem mark_my (w0 : World) (b : Nat) (cs : List Int) (hi rs n : Int) (w : World) (h : My w0 w b cs hi 0 rs) (r : Bool) (hr : decide (hi < n) = r) (hi' : Int) (hh : max hi n = hi') :
    Calls Try.prog 11 #[.pointer (some ⟨b, 0, none⟩), .int .i64 n] w fun e w' => e = .returned (.bool r) ∧ My w0 w' b cs hi' 0 rs ∧ Near b w w' :=
  (mark_c b cs hi rs n w h.mt).mono fun e w' ⟨h1, h2, h3⟩ => ⟨hr ▸ h1, h.step (hh ▸ h2) h3, h3⟩
theorem high_my (w0 : World) (b : Nat) (cs : List Int) (hi cl rs : Int) (w : World) (h : My w0 w b cs hi cl rs) :
    Calls Try.prog 12 #[.pointer (some ⟨b, 0, none⟩)] w fun e w' => e = .returned (.int .i64 hi) ∧ w' = w := high_c b cs hi cl rs w h.mt
theorem total_my (w0 : World) (b : Nat) (cs : List Int) (hi cl rs : Int) (w : World) (h : My w0 w b cs hi cl rs) (hpos : ∀ k, k < 16 → 0 ≤ cs.getD k 0) (hsum : sumC cs ≤ 2305843009213693952) :
    Calls Try.prog 15 #[.pointer (some ⟨b, 0, none⟩)] w fun e w' => e = .returned (.int .i64 (sumC cs)) ∧ w' = w := total_c b cs hi cl rs w h.mt hpos hsum
/-- What a counter has. -/
def got (cs : List Int) (k : Int) : Int := if 0 ≤ k ∧ k < 16 then cs.getD k.toNat 0 else 0
theorem get_my (w0 : World) (b : Nat) (cs : List Int) (hi cl rs k : Int) (w : World) (h : My w0 w b cs hi cl rs) (x : Int) (hx : got cs k = x) :
    Calls Try.prog 14 #[.pointer (some ⟨b, 0, none⟩), .int .i64 k] w fun e w' => e = .returned (.int .i64 x) ∧ w' = w := by
  unfold got at hx
  by_cases hk : 0 ≤ k ∧ k < 16
  · rw [if_pos hk] at hx
    obtain ⟨j, rfl⟩ : ∃ j : Nat, k = j := ⟨k.toNat, by omega⟩
    rw [Int.toNat_natCast] at hx
    exact hx ▸ get_in b cs hi cl rs j (by omega) w h.mt
  · rw [if_neg hk] at hx
    exact hx ▸ get_out _ k (by omega) w
/-- Counts that are not too many. -/
def Small (cs : List Int) (m : Int) : Prop := ∀ k, 0 ≤ cs.getD k 0 ∧ cs.getD k 0 ≤ m
def counted (cs : List Int) (k n : Int) : List Int := if okC k n then cs.set k.toNat (cs.getD k.toNat 0 + n) else cs
theorem count_my (w0 : World) (b : Nat) (cs : List Int) (hi rs k n : Int) (w : World) (h : My w0 w b cs hi 0 rs) (r : Bool) (hr : decide (okC k n) = r) (cs' : List Int) (hcs : counted cs k n = cs') (hs : Small cs 4611686014132420608) :
    Calls Try.prog 13 #[.pointer (some ⟨b, 0, none⟩), .int .i64 k, .int .i64 n] w fun e w' => e = .returned (.bool r) ∧ My w0 w' b cs' hi 0 rs ∧ Near b w w' := by
  unfold counted at hcs
  by_cases hk : okC k n
  · rw [if_pos hk] at hcs
    rw [decide_eq_true hk] at hr
    obtain ⟨h1, h2, h3, h4⟩ := hk
    obtain ⟨j, rfl⟩ : ∃ j : Nat, k = j := ⟨k.toNat, by omega⟩
    rw [Int.toNat_natCast] at hcs
    have h5 := hs j
    refine (count_in b cs hi rs n j (by omega) h3 h4 w h.mt h5.1 (by omega)).mono fun e w' ⟨g1, g2, g3⟩ => ⟨hr ▸ g1, h.step ?_ g3, g3⟩
    rw [show min (cs.getD j 0 + n) 4611686018427387904 = cs.getD j 0 + n by omega, hcs] at g2
    exact g2
  · rw [if_neg hk] at hcs
    rw [decide_eq_false hk] at hr
    exact (count_out b cs hi rs k n hk w h.mt).mono fun e w' ⟨g1, g2, g3⟩ => ⟨hr ▸ g1, h.step (hcs ▸ g2) g3, g3⟩
theorem small_zeros : Small zeros 0 := by
  intro k
  have : zeros.getD k 0 = 0 := by
    by_cases hk : k < 16
    · have hk' : k = 0 ∨ k = 1 ∨ k = 2 ∨ k = 3 ∨ k = 4 ∨ k = 5 ∨ k = 6 ∨ k = 7 ∨ k = 8 ∨ k = 9 ∨ k = 10 ∨ k = 11 ∨ k = 12 ∨ k = 13 ∨ k = 14 ∨ k = 15 := by omega
      rcases hk' with rfl | rfl | rfl | rfl | rfl | rfl | rfl | rfl | rfl | rfl | rfl | rfl | rfl | rfl | rfl | rfl <;> rfl
    · rw [List.getD_eq_getElem?_getD, List.getElem?_eq_none (by show 16 ≤ k; omega)]
      rfl
  omega
theorem Small.mono {cs : List Int} {m m' : Int} (h : Small cs m) (hm : m ≤ m') : Small cs m' := fun k => ⟨(h k).1, Int.le_trans (h k).2 hm⟩
theorem Small.counted {cs : List Int} {m m' : Int} (h : Small cs m) (k n : Int) (hm : m + n ≤ m') (h0 : m ≤ m') : Small (counted cs k n) m' := by
  intro i
  unfold HandM.counted
  by_cases hk : okC k n
  · rw [if_pos hk]
    have h1 := h i
    have h2 := h k.toNat
    obtain ⟨_, _, h3, _⟩ := hk
    rw [List.getD_eq_getElem?_getD] at h2 ⊢
    by_cases e : k.toNat = i
    · subst e
      rw [List.getElem?_set]
      simp only [if_true]
      split
      · simp; omega
      · simp; omega
    · rw [List.getElem?_set_ne e, ← List.getD_eq_getElem?_getD]
      omega
  · rw [if_neg hk]
    have := h i
    omega
def z5 : List Int := [0, 0, 5, 0, 0, 0, 0, 0, 0, 0, 0, 0, 0, 0, 0, 0]
def z6 : List Int := [0, 0, 6, 0, 0, 0, 0, 0, 0, 0, 0, 0, 0, 0, 0, 0]
theorem z5_eq : counted zeros 2 5 = z5 := by decide +kernel
theorem z6_eq : counted z5 2 1 = z6 := by decide +kernel
theorem ok5 : decide (okC 2 5) = true := by decide +kernel
theorem ok1 : decide (okC 2 1) = true := by decide +kernel
theorem got6 : got z6 2 = 6 := by decide +kernel
set_option maxRecDepth 100000 in
set_option maxHeartbeats 4000000 in
theorem anchor_c (w : World) : Calls Try.prog 9 #[] w fun e w' => e = .returned (.bool true) ∧ Below w.heap.size w w' := by
  have S0 := Aside0.mk (small_zeros.mono (m' := 4611686014132420608) (by decide))
  have S1 : Aside0 (Small z5 4611686014132420608) := Aside0.mk (z5_eq ▸ (small_zeros.counted 2 5 (m' := 4611686014132420608) (by decide) (by decide)))
  go_enter Try.func9, Try.ntmps9
  go_wp2_with (first
    | (go_at_call 10; refine (new_my w _ (Below.refl _ _)).mono ?_; rintro e w1 ⟨b, rfl, hm, -, -⟩; have HM := Aside0.mk hm; clear hm)
    | (go_at_call 13; with_reducible refine (count_my w b zeros 0 0 2 5 _ HM.out true ok5 _ z5_eq S0.out).mono ?_; rintro e w1 ⟨rfl, hm, -⟩; have HM' := Aside0.mk hm; clear hm HM; have HM := HM'; clear HM')
    | (go_at_call 13; with_reducible refine (count_my w b z5 0 0 2 1 _ HM.out true ok1 _ z6_eq S1.out).mono ?_; rintro e w1 ⟨rfl, hm, -⟩; have HM' := Aside0.mk hm; clear hm HM; have HM := HM'; clear HM')
    | (go_at_call 14; with_reducible refine (get_my w b z6 0 0 0 2 _ HM.out 6 got6).mono ?_; rintro e w1 ⟨rfl, rfl⟩)
    | (go_at_call 11; with_reducible refine (mark_my w b z6 0 0 3 _ HM.out true (by decide) 3 (by decide)).mono ?_; rintro e w1 ⟨rfl, hm, -⟩; have HM' := Aside0.mk hm; clear hm HM; have HM := HM'; clear HM')
    | (go_at_call 11; with_reducible refine (mark_my w b z6 3 0 2 _ HM.out false (by decide) 3 (by decide)).mono ?_; rintro e w1 ⟨rfl, hm, -⟩; have HM' := Aside0.mk hm; clear hm HM; have HM := HM'; clear HM')
    | (go_at_call 12; with_reducible refine (high_my w b z6 3 0 0 _ HM.out).mono ?_; rintro e w1 ⟨rfl, rfl⟩))
  go_ret
  exact ⟨rfl, HM.out.bel⟩
end Go.Proofs.Ytblibjnhldocaaa.HandM
