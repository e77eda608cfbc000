/- Plain: bits of a byte that are turned give another sum. -/
import Derived.Test.YtldiipomcenbkaaHandC
namespace Go.Proofs.Ytldiipomcenbkaa.HandC
set_option linter.unusedVariables false
set_option linter.unusedSimpArgs false
theorem bs_zero {c : Nat} (hc : c < 65536) (h : bs c = 0) : c = 0 := by
  have e : bs c = (c * 2 % 65536) ^^^ (if 32768 ≤ c then 4129 else 0) := rfl
  by_cases ht : 32768 ≤ c
  · rw [if_pos ht, h] at e
    have h2 : c * 2 % 65536 = 4129 := by
      have := congrArg (· ^^^ 4129) e
      simp only [Nat.xor_assoc, Nat.xor_self, Nat.xor_zero, Nat.zero_xor] at this
      exact this.symm
    omega
  · rw [if_neg ht, h, Nat.xor_zero] at e
    omega
theorem bsn_zero : ∀ (n : Nat) {c : Nat}, c < 65536 → bsn n c = 0 → c = 0 := by
  intro n
  induction n with
  | zero => exact fun _ h => h
  | succ n ih => exact fun hc h => bs_zero hc (ih (bs_lt _) h)
theorem xor_four' (c d p q : Nat) : c ^^^ d ^^^ (p ^^^ q) = (c ^^^ p) ^^^ (d ^^^ q) := by
  rw [Nat.xor_assoc, Nat.xor_assoc, ← Nat.xor_assoc d, Nat.xor_comm d p, Nat.xor_assoc p]
theorem stp_xor' (c d x y : Nat) (hc : c < 65536) (hd : d < 65536) (hx : x < 256) (hy : y < 256) : stp (c ^^^ d) (x ^^^ y) = stp c x ^^^ stp d y := by
  have hx2 : x * 256 < 65536 := Nat.mul_lt_mul_of_pos_right hx (by decide)
  have hy2 : y * 256 < 65536 := Nat.mul_lt_mul_of_pos_right hy (by decide)
  have hcd : c ^^^ d < 65536 := xor_lt 16 hc hd
  have hxy : x ^^^ y < 256 := xor_lt 8 hx hy
  have e1 := by_bits (c ^^^ d) (x ^^^ y) hcd hxy
  have e2 := by_bits c x hc hx
  have e3 := by_bits d y hd hy
  rw [← xor_mul] at e1
  obtain ⟨p, hp⟩ : ∃ p, x * 256 = p := ⟨_, rfl⟩
  obtain ⟨q, hq⟩ : ∃ q, y * 256 = q := ⟨_, rfl⟩
  rw [hp, hq] at e1
  rw [hp] at e2 hx2
  rw [hq] at e3 hy2
  rw [xor_four'] at e1
  have h1 : c ^^^ p < 65536 := xor_lt 16 hc hx2
  have h2 : d ^^^ q < 65536 := xor_lt 16 hd hy2
  have e4 := bsn_xor 8 _ _ h1 h2
  exact e1.symm.trans (e4.trans (by rw [e2, e3]))
theorem zero_bs : bs 0 = 0 := by decide
theorem bsn_of_zero : ∀ n, bsn n 0 = 0 := by
  intro n
  induction n with
  | zero => rfl
  | succ n ih => rw [bsn_succ, ih, zero_bs]
theorem stp_shift (c e x : Nat) (hc : c < 65536) (he : e < 65536) (hx : x < 256) : stp (c ^^^ e) x = stp c x ^^^ bsn 8 e := by
  have h := stp_xor' c e x 0 hc he hx (by decide)
  rw [Nat.xor_zero] at h
  rw [h, ← by_bits e 0 he (by decide), Nat.zero_mul, Nat.xor_zero]
theorem crc_shift : ∀ (t : List Nat) (c e : Nat), c < 65536 → e < 65536 → (∀ x ∈ t, x < 256) → crc (c ^^^ e) t = crc c t ^^^ bsn (8 * t.length) e := by
  intro t
  induction t with
  | nil => exact fun c e _ _ _ => rfl
  | cons x t ih =>
    intro c e hc he ht
    have hx := ht x List.mem_cons_self
    show crc (stp (c ^^^ e) x) t = crc (stp c x) t ^^^ bsn (8 * (t.length + 1)) e
    rw [stp_shift c e x hc he hx, ih _ _ (stp_lt c x hc hx) (bsn_lt 8 e he) (fun y hy => ht y (List.mem_cons_of_mem _ hy)), ← bsn_add, Nat.mul_add, Nat.mul_one, Nat.add_comm]
theorem crc_flip : ∀ (l : List Nat) (j v c : Nat), c < 65536 → v < 256 → j < l.length → (∀ x ∈ l, x < 256) → crc c (l.set j (l.getD j 0 ^^^ v)) = crc c l ^^^ bsn (8 * (l.length - j)) (v * 256) := by
  intro l
  induction l with
  | nil => exact fun j v c _ _ h _ => absurd h (by simp)
  | cons x t ih =>
    intro j v c hc hv hj hl
    have hx := hl x List.mem_cons_self
    have ht := fun y hy => hl y (List.mem_cons_of_mem x hy)
    have hv2 : v * 256 < 65536 := Nat.mul_lt_mul_of_pos_right hv (by decide)
    cases j with
    | zero =>
      show crc (stp c (x ^^^ v)) t = crc (stp c x) t ^^^ bsn (8 * (t.length + 1)) (v * 256)
      have h := stp_xor' c 0 x v hc (by decide) hx hv
      rw [Nat.xor_zero, ← by_bits 0 v (by decide) hv, Nat.zero_xor] at h
      rw [h, crc_shift t _ _ (stp_lt c x hc hx) (bsn_lt 8 _ hv2) ht, ← bsn_add, Nat.mul_add, Nat.mul_one, Nat.add_comm]
    | succ j =>
      show crc (stp c x) (t.set j (t.getD j 0 ^^^ v)) = crc (stp c x) t ^^^ bsn (8 * (t.length + 1 - (j + 1))) (v * 256)
      rw [ih j v (stp c x) (stp_lt c x hc hx) hv (by simpa using hj) ht, Nat.add_sub_add_right]
theorem xor_zero_of {a b : Nat} (h : a ^^^ b = a) : b = 0 := by
  have : a ^^^ (a ^^^ b) = a ^^^ a := by rw [h]
  rwa [← Nat.xor_assoc, Nat.xor_self, Nat.zero_xor] at this
theorem crc_turned (l : List Nat) (j v : Nat) (hv : v < 256) (h0 : 0 < v) (hj : j < l.length) (hl : ∀ x ∈ l, x < 256) : crc 0 (l.set j (l.getD j 0 ^^^ v)) ≠ crc 0 l := by
  intro h
  rw [crc_flip l j v 0 (by decide) hv hj hl] at h
  have h2 := xor_zero_of h
  have h3 := bsn_zero _ (by omega) h2
  omega
end Go.Proofs.Ytldiipomcenbkaa.HandC
