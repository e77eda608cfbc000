/- Total, by hand: for counts that are not too many it is their sum. -/
import Derived.Test.YtblibjnhldocaaaHandM
namespace Go.Proofs.Ytblibjnhldocaaa.HandM
open Go.RowKit
set_option linter.unusedVariables false
set_option linter.unusedSimpArgs false
theorem wp64 {x : Int} (h1 : -9223372036854775808 ≤ x) (h2 : x ≤ 9223372036854775807) : wrap64 x = x := by unfold wrap64; omega
theorem i64_and1 (n : Int) : bits .and .i64 n 1 = n % 2 := by
  have h1 : (BitVec.ofInt 64 1).toNat = 2 ^ 1 - 1 := by decide
  have key : (BitVec.ofInt 64 n &&& BitVec.ofInt 64 1).toNat = (n % ((2 ^ 64 : Nat) : Int)).toNat % 2 ^ 1 := by
    rw [BitVec.toNat_and, BitVec.toNat_ofInt, h1, Nat.and_two_pow_sub_one_eq_mod]
  show IntKind.i64.wrap ((BitVec.ofInt 64 n &&& BitVec.ofInt 64 1).toNat : Nat) = n % 2
  rw [key, IntKind.wrap_i64]
  omega
attribute [local go_sem] i64_and1   -- for this text's walk alone
/-- The first i counts, all together, each through f. -/
def upto (f : Int → Int) (cs : List Int) : Nat → Int
  | 0 => 0
  | i + 1 => upto f cs i + f (cs.getD i 0)
def sumC (cs : List Int) : Int := upto (fun x => x) cs 16
theorem upto_parts (cs : List Int) (i : Nat) : 2 * upto (fun x => x / 2) cs i + upto (fun x => x % 2) cs i = upto (fun x => x) cs i := by
  induction i with
  | zero => rfl
  | succ i ih =>
    simp only [upto]
    omega
theorem upto_mono (f : Int → Int) (cs : List Int) (h : ∀ k, k < 16 → 0 ≤ f (cs.getD k 0)) (n : Nat) (hn : n ≤ 16) : ∀ i, i ≤ n → 0 ≤ upto f cs i ∧ upto f cs i ≤ upto f cs n := by
  have pos : ∀ i, i ≤ 16 → 0 ≤ upto f cs i := by
    intro i
    induction i with
    | zero => exact fun _ => Int.le_refl 0
    | succ i ih =>
      intro hi
      have h1 := ih (by omega)
      have h2 := h i (by omega)
      simp only [upto]
      omega
  intro i hi
  refine ⟨pos i (by omega), ?_⟩
  induction n with
  | zero => obtain rfl : i = 0 := by omega
            exact Int.le_refl _
  | succ n ih =>
    by_cases e : i = n + 1
    · subst e; exact Int.le_refl _
    · have h1 := ih (by omega) (by omega)
      have h2 := h n (by omega)
      simp only [upto]
      omega
set_option maxRecDepth 100000 in
set_option maxHeartbeats 4000000 in
theorem total_c (b : Nat) (cs : List Int) (hi cl rs : Int) (w : World) (h : Mt w b cs hi cl rs) (hpos : ∀ k, k < 16 → 0 ≤ cs.getD k 0) (hsum : sumC cs ≤ 2305843009213693952) :
    Calls Try.prog 15 #[.pointer (some ⟨b, 0, none⟩)] w fun e w' => e = .returned (.int .i64 (sumC cs)) ∧ w' = w := by
  have HM := Aside0.mk h
  have HP := Aside0.mk hpos
  have HS := Aside0.mk hsum
  have B1 := Aside0.mk (upto_mono (fun x => x / 2) cs (fun k hk => by have := hpos k hk; show 0 ≤ cs.getD k 0 / 2; omega) 16 (Nat.le_refl _))
  have B2 := Aside0.mk (upto_mono (fun x => x % 2) cs (fun k hk => by show 0 ≤ cs.getD k 0 % 2; omega) 16 (Nat.le_refl _))
  have B3 := Aside0.mk (upto_parts cs 16)
  have B4 := Aside0.mk (upto_mono (fun x => x) cs hpos 16 (Nat.le_refl _))
  clear h hpos hsum
  obtain ⟨w0, hw0⟩ : ∃ w0, w0 = w := ⟨_, rfl⟩
  subst hw0
  go_enter Try.func15, Try.ntmps15
  go_wp2
  go_loopw [3, 7] (fun sum i wr => ∃ j : Nat, j ≤ 16 ∧ i = .int .i64 j ∧ sum = .int .i64 (upto (fun x => x / 2) cs j) ∧ wr = w0) (fun _ i _ => 16 - (intOf i).toNat)
  case atStart => exact ⟨0, by omega, rfl, rfl, rfl⟩
  case round =>
    obtain ⟨j, hj, rfl, rfl, rfl⟩ := hrel
    by_cases hlt : j < 16
    · have hlt2 : (j : Int) < 16 := by omega
      have c1 := HM.out.count j hlt
      obtain ⟨x, hx⟩ : ∃ x, cs.getD j 0 = x := ⟨_, rfl⟩
      rw [hx] at c1
      obtain ⟨s, hs⟩ : ∃ s, upto (fun x => x / 2) cs j = s := ⟨_, rfl⟩
      rw [hs]
      have hx0 : 0 ≤ x := hx ▸ HP.out j hlt
      have hs0 : 0 ≤ s := hs ▸ (B1.out j hj).1
      have hs1 : s + x / 2 ≤ 1152921504606846976 := by
        have h1 := (B1.out (j + 1) (by omega)).2
        have h2 := (B2.out 16 (Nat.le_refl _)).1
        have h3 := B3.out
        have h4 := HS.out
        unfold sumC at h4
        rw [show upto (fun x => x / 2) cs (j + 1) = upto (fun x => x / 2) cs j + cs.getD j 0 / 2 from rfl, hs, hx] at h1
        omega
      go_wp2_with (first | (go_at_call 21; refine (load64 _ x _ c1).mono ?_; rintro e w1 ⟨rfl, rfl⟩))
      go_roundw
      case rel => exact ⟨j + 1, by omega, by go_num, by rw [show upto (fun x => x / 2) cs (j + 1) = upto (fun x => x / 2) cs j + cs.getD j 0 / 2 from rfl, hs, hx], trivial⟩
      case measure => simp [intOf]; omega
    · have hge : 16 ≤ (j : Int) := by omega
      have ej : j = 16 := by omega
      obtain ⟨s, hs⟩ : ∃ s, upto (fun x => x / 2) cs j = s := ⟨_, rfl⟩
      rw [hs]
      rw [ej] at hs
      clear ej
      have B3' := B3.out
      rw [hs] at B3'
      have B3s := Aside0.mk B3'
      have B1' := B1.out 16 (Nat.le_refl _)
      rw [hs] at B1'
      have B1s := Aside0.mk B1'
      clear B3' B1' B3 B1 hs hj hlt
      go_wp2
      obtain ⟨w2, hw2⟩ : ∃ w2, w2 = wr := ⟨_, rfl⟩
      subst hw2
      go_loopw [5, 21] (fun odd i wr => ∃ j : Nat, j ≤ 16 ∧ i = .int .i64 j ∧ odd = .int .i64 (upto (fun x => x % 2) cs j) ∧ wr = w2) (fun _ i _ => 16 - (intOf i).toNat)
      case atStart => exact ⟨0, by omega, rfl, rfl, rfl⟩
      case round =>
        obtain ⟨j, hj, rfl, rfl, rfl⟩ := hrel
        by_cases hlt : j < 16
        · have hlt2 : (j : Int) < 16 := by omega
          have c1 := HM.out.count j hlt
          obtain ⟨x, hx⟩ : ∃ x, cs.getD j 0 = x := ⟨_, rfl⟩
          rw [hx] at c1
          obtain ⟨o, ho⟩ : ∃ o, upto (fun x => x % 2) cs j = o := ⟨_, rfl⟩
          rw [ho]
          have ho0 : 0 ≤ o := ho ▸ (B2.out j hj).1
          have ho1 : o + x % 2 ≤ 2305843009213693952 := by
            have h1 := (B2.out (j + 1) (by omega)).2
            have h3 := B3s.out
            have h4 := HS.out
            have h5 := B1s.out.1
            unfold sumC at h4
            rw [show upto (fun x => x % 2) cs (j + 1) = upto (fun x => x % 2) cs j + cs.getD j 0 % 2 from rfl, ho, hx] at h1
            omega
          have hx0 : 0 ≤ x := hx ▸ HP.out j hlt
          go_wp2_with (first | (go_at_call 21; refine (load64 _ x _ c1).mono ?_; rintro e w1 ⟨rfl, rfl⟩))
          go_roundw
          case rel => exact ⟨j + 1, by omega, by go_num, by rw [show upto (fun x => x % 2) cs (j + 1) = upto (fun x => x % 2) cs j + cs.getD j 0 % 2 from rfl, ho, hx], trivial⟩
          case measure => simp [intOf]; omega
        · obtain rfl : j = 16 := by omega
          have B2' := B2.out 16 (Nat.le_refl _)
          have hS := HS.out
          have hB3 := B3s.out
          have hB1 := B1s.out
          unfold sumC at hS
          obtain ⟨o, ho⟩ : ∃ o, upto (fun x => x % 2) cs 16 = o := ⟨_, rfl⟩
          obtain ⟨t, ht⟩ : ∃ t, upto (fun x => x) cs 16 = t := ⟨_, rfl⟩
          have ht' : sumC cs = t := ht
          rw [ho] at B2' hB3 ⊢
          rw [ht] at hS hB3
          go_wp2
          go_ret
          refine ⟨?_, rfl⟩
          show Ending.returned (.int .i64 _) = _
          rw [ht']
end Go.Proofs.Ytblibjnhldocaaa.HandM
