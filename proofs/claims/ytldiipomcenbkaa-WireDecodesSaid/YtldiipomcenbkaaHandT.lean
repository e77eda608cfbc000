/- Bytes that are cut off, or have others behind, or a bit turned, are no frame. -/
import Derived.Test.YtldiipomcenbkaaHandB
import Derived.Test.YtldiipomcenbkaaHandZ
namespace Go.Proofs.Ytldiipomcenbkaa.Qw
set_option linter.unusedVariables false
set_option linter.unusedSimpArgs false
theorem getD_take (l : List Nat) (j i : Nat) (h : i < j) : (l.take j).getD i 0 = l.getD i 0 := by
  rw [List.getD_eq_getElem?_getD, List.getD_eq_getElem?_getD, List.getElem?_take, if_pos h]
theorem getD_append (l m : List Nat) (i : Nat) (h : i < l.length) : (l ++ m).getD i 0 = l.getD i 0 := by
  rw [List.getD_eq_getElem?_getD, List.getD_eq_getElem?_getD, List.getElem?_append_left h]
theorem getD_set (l : List Nat) (q i v : Nat) (h : q ≠ i) : (l.set q v).getD i 0 = l.getD i 0 := by
  rw [List.getD_eq_getElem?_getD, List.getD_eq_getElem?_getD, List.getElem?_set_ne h]
theorem getD_set_self (l : List Nat) (q v : Nat) (h : q < l.length) : (l.set q v).getD q 0 = v := by
  rw [List.getD_eq_getElem?_getD, List.getElem?_set_self h]
  rfl
theorem cut_frame (l : List Nat) (h : frameN l = 0) (j : Nat) (hj : j < l.length) : frameN (l.take j) = 11 := by
  obtain ⟨h1, h2, h3, h4, h5, h6, h7, -⟩ := frame_ok h
  have hl : (l.take j).length = j := by rw [List.length_take]; omega
  unfold frameN
  rw [hl]
  by_cases h8 : j < 4
  · rw [if_pos h8]
  · rw [if_neg h8, getD_take l j 0 (by omega), getD_take l j 1 (by omega), getD_take l j 2 (by omega), getD_take l j 3 (by omega), h5, h6, h7]
    obtain ⟨x3, hx3⟩ : ∃ x, l.getD 3 0 = x := ⟨_, rfl⟩
    rw [hx3] at h3 h4 ⊢
    rw [if_neg (by decide), if_neg (by simp; omega)]
    by_cases h9 : j < 77
    · rw [if_pos h9]
    · rw [if_neg h9, getD_take l j 76 (by omega), if_neg (by omega), if_pos (by omega)]
theorem long_frame (l m : List Nat) (h : frameN l = 0) (hm : 0 < m.length) : frameN (l ++ m) = 10 := by
  obtain ⟨h1, h2, h3, h4, h5, h6, h7, -⟩ := frame_ok h
  unfold frameN
  rw [List.length_append, getD_append l m 0 (by omega), getD_append l m 1 (by omega), getD_append l m 2 (by omega), getD_append l m 3 (by omega), getD_append l m 76 (by omega), h5, h6, h7]
  obtain ⟨x3, hx3⟩ : ∃ x, l.getD 3 0 = x := ⟨_, rfl⟩
  rw [hx3] at h3 h4 ⊢
  rw [if_neg (by omega), if_neg (by decide), if_neg (by simp; omega), if_neg (by omega), if_neg (by omega), if_neg (by omega), if_pos (by omega)]
theorem turn_frame (l : List Nat) (h : frameN l = 0) (hl : ∀ x ∈ l, x < 256) (q v : Nat) (hq : q < l.length) (hv : v < 256) (h0 : 0 < v) : frameN (l.set q (l.getD q 0 ^^^ v)) ≠ 0 := by
  intro hc
  obtain ⟨h1, h2, -, -, -, -, -, h8⟩ := frame_ok h
  obtain ⟨-, -, -, -, -, -, -, g8⟩ := frame_ok hc
  rw [List.length_set] at g8
  obtain ⟨L, hL⟩ : ∃ L, l.length = L + 2 := ⟨l.length - 2, by omega⟩
  rw [hL] at h8 g8 hq
  rw [show L + 2 - 2 = L by omega, show L + 2 - 1 = L + 1 by omega] at h8 g8
  have hne : ∀ x : Nat, x ^^^ v ≠ x := fun x h => by have := HandC.xor_zero_of h; omega
  by_cases hq1 : q < L
  · rw [getD_set l q L _ (by omega), getD_set l q (L + 1) _ (by omega), List.take_set, ← getD_take l L q hq1, ← h8] at g8
    exact HandC.crc_turned (l.take L) q v hv h0 (by rw [List.length_take]; omega) (fun x hx => hl x (List.mem_of_mem_take hx)) g8
  · rw [List.take_set, List.set_eq_of_length_le (by rw [List.length_take]; omega), h8] at g8
    by_cases hq2 : q = L
    · subst hq2
      rw [getD_set_self l q _ (by omega), getD_set l q (q + 1) _ (by omega)] at g8
      exact hne (l.getD q 0) (by omega)
    · obtain rfl : q = L + 1 := by omega
      rw [getD_set_self l (L + 1) _ (by omega), getD_set l (L + 1) L _ (by omega)] at g8
      exact hne (l.getD (L + 1) 0) (by omega)
end Go.Proofs.Ytldiipomcenbkaa.Qw
