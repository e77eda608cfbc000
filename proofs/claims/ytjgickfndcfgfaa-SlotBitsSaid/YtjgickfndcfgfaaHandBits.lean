/- SlotBits, plain: up to sixteen bits in a row that are turned give another sum. -/
import Derived.Test.YtjgickfndcfgfaaHandC
namespace Go.Proofs.Ytjgickfndcfgfaa.HandC
set_option linter.unusedVariables false
set_option linter.unusedSimpArgs false
theorem bs_zero {c : Nat} (hc : c < 65536) (h : bs c = 0) : c = 0 := by
  have e : bs c = (c * 2 % 65536) ^^^ (if 32768 ≤ c then 4129 else 0) := rfl
  by_cases ht : 32768 ≤ c
  · rw [if_pos ht, h] at e
    have h2 : c * 2 % 65536 = 4129 := by
      have := congrArg (· ^^^ 4129) e
      simp only [Nat.xor_assoc, Nat.xor_self, Nat.xor_zero, Nat.zero_xor] at this
      exact this.symm
    omega
  · rw [if_neg ht, h, Nat.xor_zero] at e
    omega
theorem bsn_zero : ∀ (n : Nat) {c : Nat}, c < 65536 → bsn n c = 0 → c = 0 := by
  intro n
  induction n with
  | zero => exact fun _ h => h
  | succ n ih => exact fun hc h => bs_zero hc (ih (bs_lt _) h)
theorem xor_four' (c d p q : Nat) : c ^^^ d ^^^ (p ^^^ q) = (c ^^^ p) ^^^ (d ^^^ q) := by
  rw [Nat.xor_assoc, Nat.xor_assoc, ← Nat.xor_assoc d, Nat.xor_comm d p, Nat.xor_assoc p]
theorem stp_xor' (c d x y : Nat) (hc : c < 65536) (hd : d < 65536) (hx : x < 256) (hy : y < 256) : stp (c ^^^ d) (x ^^^ y) = stp c x ^^^ stp d y := by
  have hx2 : x * 256 < 65536 := Nat.mul_lt_mul_of_pos_right hx (by decide)
  have hy2 : y * 256 < 65536 := Nat.mul_lt_mul_of_pos_right hy (by decide)
  have hcd : c ^^^ d < 65536 := xor_lt 16 hc hd
  have hxy : x ^^^ y < 256 := xor_lt 8 hx hy
  have e1 := by_bits (c ^^^ d) (x ^^^ y) hcd hxy
  have e2 := by_bits c x hc hx
  have e3 := by_bits d y hd hy
  rw [← xor_mul] at e1
  obtain ⟨p, hp⟩ : ∃ p, x * 256 = p := ⟨_, rfl⟩
  obtain ⟨q, hq⟩ : ∃ q, y * 256 = q := ⟨_, rfl⟩
  rw [hp, hq] at e1
  rw [hp] at e2 hx2
  rw [hq] at e3 hy2
  rw [xor_four'] at e1
  have h1 : c ^^^ p < 65536 := xor_lt 16 hc hx2
  have h2 : d ^^^ q < 65536 := xor_lt 16 hd hy2
  have e4 := bsn_xor 8 _ _ h1 h2
  exact e1.symm.trans (e4.trans (by rw [e2, e3]))
theorem zero_bs : bs 0 = 0 := by decide
theorem bsn_of_zero : ∀ n, bsn n 0 = 0 := by
  intro n
  induction n with
  | zero => rfl
  | succ n ih => rw [bsn_succ, ih, zero_bs]
theorem stp_shift (c e x : Nat) (hc : c < 65536) (he : e < 65536) (hx : x < 256) : stp (c ^^^ e) x = stp c x ^^^ bsn 8 e := by
  have h := stp_xor' c e x 0 hc he hx (by decide)
  rw [Nat.xor_zero] at h
  rw [h, ← by_bits e 0 he (by decide), Nat.zero_mul, Nat.xor_zero]
theorem crc_shift : ∀ (t : List Nat) (c e : Nat), c < 65536 → e < 65536 → (∀ x ∈ t, x < 256) → crc (c ^^^ e) t = crc c t ^^^ bsn (8 * t.length) e := by
  intro t
  induction t with
  | nil => exact fun c e _ _ _ => rfl
  | cons x t ih =>
    intro c e hc he ht
    have hx := ht x List.mem_cons_self
    show crc (stp (c ^^^ e) x) t = crc (stp c x) t ^^^ bsn (8 * (t.length + 1)) e
    rw [stp_shift c e x hc he hx, ih _ _ (stp_lt c x hc hx) (bsn_lt 8 e he) (fun y hy => ht y (List.mem_cons_of_mem _ hy)), ← bsn_add, Nat.mul_add, Nat.mul_one, Nat.add_comm]
theorem crc_flip : ∀ (l : List Nat) (j v c : Nat), c < 65536 → v < 256 → j < l.length → (∀ x ∈ l, x < 256) → crc c (l.set j (l.getD j 0 ^^^ v)) = crc c l ^^^ bsn (8 * (l.length - j)) (v * 256) := by
  intro l
  induction l with
  | nil => exact fun j v c _ _ h _ => absurd h (by simp)
  | cons x t ih =>
    intro j v c hc hv hj hl
    have hx := hl x List.mem_cons_self
    have ht := fun y hy => hl y (List.mem_cons_of_mem x hy)
    have hv2 : v * 256 < 65536 := Nat.mul_lt_mul_of_pos_right hv (by decide)
    cases j with
    | zero =>
      show crc (stp c (x ^^^ v)) t = crc (stp c x) t ^^^ bsn (8 * (t.length + 1)) (v * 256)
      have h := stp_xor' c 0 x v hc (by decide) hx hv
      rw [Nat.xor_zero, ← by_bits 0 v (by decide) hv, Nat.zero_xor] at h
      rw [h, crc_shift t _ _ (stp_lt c x hc hx) (bsn_lt 8 _ hv2) ht, ← bsn_add, Nat.mul_add, Nat.mul_one, Nat.add_comm]
    | succ j =>
      show crc (stp c x) (t.set j (t.getD j 0 ^^^ v)) = crc (stp c x) t ^^^ bsn (8 * (t.length + 1 - (j + 1))) (v * 256)
      rw [ih j v (stp c x) (stp_lt c x hc hx) hv (by simpa using hj) ht, Nat.add_sub_add_right]
theorem bsn_pow : ∀ (k t : Nat), t + k ≤ 15 → bsn k (2 ^ t) = 2 ^ (t + k) := by
  intro k
  induction k with
  | zero => exact fun t _ => rfl
  | succ k ih =>
    intro t h
    have hlt : 2 ^ t < 32768 := by
      have : 2 ^ t < 2 ^ 15 := Nat.pow_lt_pow_right (by decide) (by omega)
      exact this
    show bsn k (bs (2 ^ t)) = _
    rw [bs_low _ (by omega), ← Nat.pow_succ, ih (t + 1) (by omega)]
    congr 1
    omega
/-- What a turned bit does: bit number i of n bytes. -/
theorem flip_bit (l : List Nat) (i c : Nat) (hc : c < 65536) (hi : i < 8 * l.length) (hl : ∀ x ∈ l, x < 256) : crc c (l.set (i / 8) (l.getD (i / 8) 0 ^^^ 2 ^ (7 - i % 8))) = crc c l ^^^ bsn (8 * l.length - i) 32768 := by
  have hv : 2 ^ (7 - i % 8) < 256 := by
    have : 2 ^ (7 - i % 8) < 2 ^ 8 := Nat.pow_lt_pow_right (by decide) (by omega)
    exact this
  rw [crc_flip l (i / 8) _ c hc hv (by omega) hl]
  congr 1
  have e1 : 2 ^ (7 - i % 8) * 256 = 2 ^ (15 - i % 8) := by
    rw [show (256 : Nat) = 2 ^ 8 from rfl, ← Nat.pow_add]
    congr 1
    omega
  have e2 : 8 * (l.length - i / 8) = i % 8 + (8 * l.length - i) := by omega
  rw [e1, e2, bsn_add, bsn_pow (i % 8) (15 - i % 8) (by omega), show 15 - i % 8 + i % 8 = 15 by omega]
/-- The first k of the bits, the first the highest of sixteen. -/
def wrd (bits : Nat) : Nat → Nat
  | 0 => 0
  | k + 1 => wrd bits k + (if bits / 2 ^ k % 2 = 1 then 2 ^ (15 - k) else 0)
theorem wrd_mul (bits : Nat) : ∀ k, k ≤ 16 → ∃ m, wrd bits k = 2 ^ (16 - k) * m ∧ m < 2 ^ k := by
  intro k
  induction k with
  | zero => exact fun _ => ⟨0, rfl, by decide⟩
  | succ k ih =>
    intro hk
    obtain ⟨m, h1, h2⟩ := ih (by omega)
    have e : 2 ^ (16 - k) = 2 ^ (16 - (k + 1)) * 2 := by rw [← Nat.pow_succ]; congr 1; omega
    have e15 : 15 - k = 16 - (k + 1) := by omega
    by_cases hb : bits / 2 ^ k % 2 = 1
    · refine ⟨2 * m + 1, ?_, by rw [Nat.pow_succ]; omega⟩
      show wrd bits k + (if bits / 2 ^ k % 2 = 1 then 2 ^ (15 - k) else 0) = _
      rw [if_pos hb, h1, e, e15, Nat.mul_assoc, Nat.mul_add, Nat.mul_one]
    · refine ⟨2 * m, ?_, by rw [Nat.pow_succ]; omega⟩
      show wrd bits k + (if bits / 2 ^ k % 2 = 1 then 2 ^ (15 - k) else 0) = _
      rw [if_neg hb, h1, e, Nat.mul_assoc, Nat.add_zero]
theorem wrd_lt (bits k : Nat) (hk : k ≤ 16) : wrd bits k < 65536 := by
  obtain ⟨m, h1, h2⟩ := wrd_mul bits k hk
  rw [h1]
  have : 2 ^ (16 - k) * m < 2 ^ (16 - k) * 2 ^ k := Nat.mul_lt_mul_of_pos_left h2 (Nat.two_pow_pos _)
  rw [← Nat.pow_add, show 16 - k + k = 16 by omega] at this
  exact this
theorem add_xor (i a b : Nat) (hb : b < 2 ^ i) : 2 ^ i * a + b = (2 ^ i * a) ^^^ b := by
  apply Nat.eq_of_testBit_eq
  intro j
  rw [Nat.testBit_xor, Nat.testBit_two_pow_mul_add _ hb, Nat.testBit_two_pow_mul]
  by_cases hj : j < i
  · simp [hj, Nat.not_le.2 hj]
  · have h3 : b.testBit j = false := Nat.testBit_lt_two_pow (Nat.lt_of_lt_of_le hb (Nat.pow_le_pow_right (by decide) (by omega)))
    simp [hj, Nat.not_lt.1 hj, h3]
theorem wrd_xor (bits k : Nat) (hk : k < 16) (hb : bits / 2 ^ k % 2 = 1) : wrd bits (k + 1) = wrd bits k ^^^ 2 ^ (15 - k) := by
  obtain ⟨m, h1, h2⟩ := wrd_mul bits k (by omega)
  show wrd bits k + (if bits / 2 ^ k % 2 = 1 then 2 ^ (15 - k) else 0) = _
  rw [if_pos hb, h1]
  exact add_xor _ _ _ (Nat.pow_lt_pow_right (by decide) (by omega))
theorem wrd_same (bits k : Nat) (hb : ¬ bits / 2 ^ k % 2 = 1) : wrd bits (k + 1) = wrd bits k := by
  show wrd bits k + (if bits / 2 ^ k % 2 = 1 then 2 ^ (15 - k) else 0) = _
  rw [if_neg hb, Nat.add_zero]
theorem wrd_pos (bits : Nat) : ∀ k, k ≤ 16 → wrd bits k = 0 → bits % 2 ^ k = 0 := by
  intro k
  induction k with
  | zero => exact fun _ _ => Nat.mod_one _
  | succ k ih =>
    intro hk h
    have h' : wrd bits k + (if bits / 2 ^ k % 2 = 1 then 2 ^ (15 - k) else 0) = 0 := h
    have h1 := ih (by omega) (by omega)
    have h2 : ¬ bits / 2 ^ k % 2 = 1 := by
      intro hb
      rw [if_pos hb] at h'
      have := Nat.two_pow_pos (15 - k)
      omega
    rw [Nat.pow_succ, Nat.mod_mul, h1, show bits / 2 ^ k % 2 = 0 by omega]
    rfl
/-- One bit more. -/
theorem turn_step (l c0 : List Nat) (len at_ bits k : Nat) (hl : c0.length = len) (hc : ∀ x ∈ c0, x < 256) (hk : k < 16) (hi : at_ + k < 8 * len) (hb : bits / 2 ^ k % 2 = 1) (h : crc 0 c0 = crc 0 l ^^^ bsn (8 * len - at_) (wrd bits k)) : crc 0 (c0.set ((at_ + k) / 8) (c0.getD ((at_ + k) / 8) 0 ^^^ 2 ^ (7 - (at_ + k) % 8))) = crc 0 l ^^^ bsn (8 * len - at_) (wrd bits (k + 1)) := by
  have hf := flip_bit c0 (at_ + k) 0 (by decide) (by rw [hl]; exact hi) hc
  rw [hf, h, hl, wrd_xor bits k hk hb, bsn_xor _ _ _ (wrd_lt bits k (by omega)) (by
    have : 2 ^ (15 - k) < 2 ^ 16 := Nat.pow_lt_pow_right (by decide) (by omega)
    exact this), Nat.xor_assoc]
  congr 2
  have e : 8 * len - at_ = k + (8 * len - (at_ + k)) := by omega
  rw [e, bsn_add, bsn_pow k (15 - k) (by omega), show 15 - k + k = 15 by omega]
/-- All bits are turned: another sum. -/
theorem turned (l c0 : List Nat) (len at_ bits : Nat) (hb : 1 ≤ bits) (hb2 : bits ≤ 65535) (h : crc 0 c0 = crc 0 l ^^^ bsn (8 * len - at_) (wrd bits 16)) : crc 0 l ≠ crc 0 c0 := by
  intro e
  rw [← e] at h
  have h1 : bsn (8 * len - at_) (wrd bits 16) = 0 := by
    have h2 := congrArg (crc 0 l ^^^ ·) h
    simp only [← Nat.xor_assoc, Nat.xor_self, Nat.zero_xor] at h2
    exact h2.symm
  have h3 := wrd_pos bits 16 (Nat.le_refl _) (bsn_zero _ (wrd_lt bits 16 (Nat.le_refl _)) h1)
  rw [Nat.mod_eq_of_lt (by omega)] at h3
  omega
end Go.Proofs.Ytjgickfndcfgfaa.HandC
