/- The sum of bytes, plain: bit by bit, and by a table of bytes. -/
import Derived.Test.YtldiipomcenbkaaProg
import Derived.Laws.BitsLemmas
namespace Go.Proofs.Ytldiipomcenbkaa.HandC
set_option linter.unusedVariables false
set_option linter.unusedSimpArgs false
/-- One bit on. -/
def bs (c : Nat) : Nat := (c * 2 % 65536) ^^^ (if 32768 ≤ c then 4129 else 0)
def bsn : Nat → Nat → Nat
  | 0, c => c
  | n + 1, c => bsn n (bs c)
/-- A byte's row of the table. -/
def tab (i : Nat) : Nat := bsn 8 (i * 256)
/-- One byte on. -/
def stp (c x : Nat) : Nat := (c * 256 % 65536) ^^^ tab ((c / 256) ^^^ x)
def crc (c : Nat) (l : List Nat) : Nat := l.foldl stp c
theorem bs_lt (c : Nat) : bs c < 65536 := by
  unfold bs
  have h1 : c * 2 % 65536 < 2 ^ 16 := Nat.mod_lt _ (by decide)
  have h2 : (if 32768 ≤ c then 4129 else 0) < 2 ^ 16 := by split <;> decide
  exact Nat.xor_lt_two_pow h1 h2
theorem bsn_lt : ∀ (n c : Nat), c < 65536 → bsn n c < 65536 := by
  intro n
  induction n with
  | zero => exact fun c h => h
  | succ n ih => exact fun c _ => ih _ (bs_lt c)
theorem bsn_succ : ∀ (n c : Nat), bsn (n + 1) c = bs (bsn n c) := by
  intro n
  induction n with
  | zero => exact fun c => rfl
  | succ n ih => exact fun c => ih (bs c)
theorem bsn_add (m n c : Nat) : bsn (m + n) c = bsn n (bsn m c) := by
  induction n with
  | zero => rfl
  | succ n ih => rw [← Nat.add_assoc, bsn_succ, bsn_succ, ih]
theorem tab_lt (i : Nat) (h : i < 256) : tab i < 65536 := bsn_lt 8 _ (by omega)
theorem xor_lt {a b : Nat} (n : Nat) (ha : a < 2 ^ n) (hb : b < 2 ^ n) : a ^^^ b < 2 ^ n := Nat.xor_lt_two_pow ha hb
theorem top_bit (a : Nat) (h : a < 65536) : (32768 ≤ a) ↔ a.testBit 15 = true := by
  rw [Nat.testBit_eq_decide_div_mod_eq, decide_eq_true_iff]
  show 32768 ≤ a ↔ a / 32768 % 2 = 1
  omega
theorem bs_xor (a b : Nat) (ha : a < 65536) (hb : b < 65536) : bs (a ^^^ b) = bs a ^^^ bs b := by
  have h1 : (a ^^^ b) * 2 % 65536 = (a * 2 % 65536) ^^^ (b * 2 % 65536) := by
    have e : ∀ x : Nat, x * 2 = x <<< 1 := fun x => by rw [Nat.shiftLeft_eq, Nat.pow_one]
    rw [e, e, e, Nat.shiftLeft_xor_distrib]
    exact Nat.xor_mod_two_pow (n := 16)
  have h2 : (if 32768 ≤ a ^^^ b then 4129 else 0) = (if 32768 ≤ a then 4129 else 0) ^^^ (if 32768 ≤ b then 4129 else 0) := by
    have hx : a ^^^ b < 65536 := xor_lt 16 ha hb
    have e := top_bit _ hx
    rw [Nat.testBit_xor] at e
    have ea := top_bit _ ha
    have eb := top_bit _ hb
    have f : ∀ x : Nat, x < 65536 → ¬ 32768 ≤ x → x.testBit 15 = false := fun x hx hn => by
      cases t : x.testBit 15 with
      | false => rfl
      | true => exact absurd ((top_bit x hx).2 t) hn
    by_cases p : 32768 ≤ a
    · by_cases q : 32768 ≤ b
      · rw [ea.1 p, eb.1 q] at e
        rw [if_pos p, if_pos q, if_neg (fun h => by have := e.1 h; cases this)]
        rfl
      · rw [ea.1 p, f b hb q] at e
        rw [if_pos p, if_neg q, if_pos (e.2 rfl)]
        rfl
    · by_cases q : 32768 ≤ b
      · rw [f a ha p, eb.1 q] at e
        rw [if_neg p, if_pos q, if_pos (e.2 rfl)]
        rfl
      · rw [f a ha p, f b hb q] at e
        rw [if_neg p, if_neg q, if_neg (fun h => by have := e.1 h; cases this)]
        rfl
  unfold bs
  rw [h1, h2]
  generalize a * 2 % 65536 = p
  generalize b * 2 % 65536 = q
  generalize (if 32768 ≤ a then 4129 else 0) = r
  generalize (if 32768 ≤ b then 4129 else 0) = s
  rw [Nat.xor_assoc, Nat.xor_assoc, ← Nat.xor_assoc q, Nat.xor_comm q r, Nat.xor_assoc r]
theorem bsn_xor : ∀ (n a b : Nat), a < 65536 → b < 65536 → bsn n (a ^^^ b) = bsn n a ^^^ bsn n b := by
  intro n
  induction n with
  | zero => exact fun a b _ _ => rfl
  | succ n ih =>
    intro a b ha hb
    show bsn n (bs (a ^^^ b)) = _
    rw [bs_xor a b ha hb, ih _ _ (bs_lt a) (bs_lt b)]
    rfl
theorem low_byte : ∀ l : Fin 256, bsn 8 l.val = l.val * 256 := by decide +kernel
theorem parts (c : Nat) : c = (c / 256 * 256) ^^^ (c % 256) := by
  have h : c / 256 * 256 + c % 256 = c := by omega
  have h2 : (c / 256) <<< 8 + c % 256 = (c / 256) <<< 8 ^^^ c % 256 := by
    apply Nat.eq_of_testBit_eq
    intro i
    rw [Nat.testBit_xor]
    have hlt : c % 256 < 2 ^ 8 := Nat.mod_lt _ (by decide)
    rw [Nat.shiftLeft_eq, Nat.mul_comm, Nat.testBit_two_pow_mul_add _ hlt, Nat.testBit_two_pow_mul]
    by_cases hi : i < 8
    · simp [hi, Nat.not_le.2 hi]
    · have h3 : (c % 256).testBit i = false := Nat.testBit_lt_two_pow (Nat.lt_of_lt_of_le hlt (Nat.pow_le_pow_right (by decide) (by omega)))
      simp [hi, Nat.not_lt.1 hi, h3]
  rw [Nat.shiftLeft_eq] at h2
  show c = (c / 256 * 2 ^ 8) ^^^ (c % 256)
  rw [← h2]
  show c = c / 256 * 256 + c % 256
  omega
theorem xor_mul (a b : Nat) : (a * 256) ^^^ (b * 256) = (a ^^^ b) * 256 := by
  have e : ∀ x : Nat, x * 256 = x <<< 8 := fun x => by rw [Nat.shiftLeft_eq]
  rw [e, e, e, Nat.shiftLeft_xor_distrib]
/-- A byte bit by bit is a byte by the table. -/
theorem by_bits (c x : Nat) (hc : c < 65536) (hx : x < 256) : bsn 8 (c ^^^ (x * 256)) = stp c x := by
  have h1 : c ^^^ (x * 256) = (((c / 256) ^^^ x) * 256) ^^^ (c % 256) := by
    have hp := parts c
    generalize c / 256 = p at hp ⊢
    generalize c % 256 = q at hp ⊢
    rw [hp, ← xor_mul, Nat.xor_assoc, Nat.xor_assoc, Nat.xor_comm q]
  have hd : c / 256 < 2 ^ 8 := by show c / 256 < 256; omega
  have ht : (c / 256) ^^^ x < 256 := xor_lt 8 hd hx
  have hl : c % 256 < 256 := Nat.mod_lt _ (by decide)
  rw [h1, bsn_xor 8 _ _ (by omega) (by omega)]
  have h2 : bsn 8 (c % 256) = c % 256 * 256 := low_byte ⟨c % 256, hl⟩
  unfold stp tab
  rw [h2, Nat.xor_comm, show c * 256 % 65536 = c % 256 * 256 by omega]
theorem stp_lt (c x : Nat) (hc : c < 65536) (hx : x < 256) : stp c x < 65536 := by
  rw [← by_bits c x hc hx]
  exact bsn_lt 8 _ (xor_lt 16 hc (by show x * 256 < 65536; omega))
theorem crc_lt : ∀ (l : List Nat) (c : Nat), c < 65536 → (∀ x ∈ l, x < 256) → crc c l < 65536 := by
  intro l
  induction l with
  | nil => exact fun c h _ => h
  | cons x l ih => exact fun c h hl => ih _ (stp_lt c x h (hl x List.mem_cons_self)) (fun y hy => hl y (List.mem_cons_of_mem _ hy))
theorem crc_append (c : Nat) (l m : List Nat) : crc c (l ++ m) = crc (crc c l) m := List.foldl_append
/-! The machine's own operations. -/
theorem xor_nat (k : IntKind) (j : Nat) (hj : j ≤ k.bits) (hk : ∀ n : Int, 0 ≤ n → n < 2 ^ j → k.wrap n = n) (a b : Nat) (ha : a < 2 ^ j) (hb : b < 2 ^ j) : bits .xor k (a : Int) (b : Int) = ((a ^^^ b : Nat) : Int) := by
  have hp : 2 ^ j ≤ 2 ^ k.bits := Nat.pow_le_pow_right (by decide) hj
  have ha' : a % 2 ^ k.bits = a := Nat.mod_eq_of_lt (Nat.lt_of_lt_of_le ha hp)
  have hb' : b % 2 ^ k.bits = b := Nat.mod_eq_of_lt (Nat.lt_of_lt_of_le hb hp)
  have cast : ∀ n : Nat, n < 2 ^ j → ((n : Nat) : Int) < 2 ^ j := fun n h => by exact_mod_cast h
  simp only [bits, BitVec.ofInt_natCast, BitVec.toNat_xor, BitVec.toNat_ofNat, ha', hb']
  exact hk _ (Int.natCast_nonneg _) (cast _ (Nat.xor_lt_two_pow ha hb))
theorem wrap_u16 (n : Int) : IntKind.u16.wrap n = n % 65536 := by simp [IntKind.wrap, IntKind.bits, IntKind.signed]
theorem wrap_u8 (n : Int) : IntKind.u8.wrap n = n % 256 := by simp [IntKind.wrap, IntKind.bits, IntKind.signed]
theorem wrap_i64 (n : Int) : IntKind.i64.wrap n = (n + 9223372036854775808) % 18446744073709551616 - 9223372036854775808 := by
  simp only [IntKind.wrap, IntKind.bits, IntKind.signed]
  simp
  split <;> omega
theorem xor16 (a b : Nat) (ha : a < 65536) (hb : b < 65536) : bits .xor .u16 (a : Int) (b : Int) = ((a ^^^ b : Nat) : Int) :=
  xor_nat .u16 16 (by decide) (fun n h0 h1 => by rw [wrap_u16]; omega) a b ha hb
theorem xor8 (a b : Nat) (ha : a < 256) (hb : b < 256) : bits .xor .u8 (a : Int) (b : Int) = ((a ^^^ b : Nat) : Int) :=
  xor_nat .u8 8 (by decide) (fun n h0 h1 => by rw [wrap_u8]; omega) a b ha hb
theorem xor64 (a b : Nat) (ha : a < 65536) (hb : b < 65536) : bits .xor .i64 (a : Int) (b : Int) = ((a ^^^ b : Nat) : Int) :=
  xor_nat .i64 16 (by decide) (fun n h0 h1 => by rw [wrap_i64]; omega) a b ha hb
theorem bs_high (c : Nat) (h : 32768 ≤ c) : bits .xor .u16 (IntKind.u16.wrap ((c : Int) * 2)) 4129 = ((bs c : Nat) : Int) := by
  rw [wrap_u16, show (c : Int) * 2 % 65536 = ((c * 2 % 65536 : Nat) : Int) by omega]
  rw [show (4129 : Int) = ((4129 : Nat) : Int) from rfl, xor16 _ _ (Nat.mod_lt _ (by decide)) (by decide)]
  unfold bs
  rw [if_pos h]
theorem bs_high64 (c : Nat) (h : 32768 ≤ c) (h2 : c < 65536) : bits .xor .i64 (((c : Int) - 32768) * 2) 4129 = ((bs c : Nat) : Int) := by
  rw [show ((c : Int) - 32768) * 2 = ((c * 2 % 65536 : Nat) : Int) by omega]
  rw [show (4129 : Int) = ((4129 : Nat) : Int) from rfl, xor64 _ _ (Nat.mod_lt _ (by decide)) (by decide)]
  unfold bs
  rw [if_pos h]
theorem bs_low (c : Nat) (h : ¬ 32768 ≤ c) : bs c = c * 2 := by
  unfold bs
  rw [if_neg h, Nat.xor_zero, Nat.mod_eq_of_lt (by omega)]
end Go.Proofs.Ytldiipomcenbkaa.HandC
