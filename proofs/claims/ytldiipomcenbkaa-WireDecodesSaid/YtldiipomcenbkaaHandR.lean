/- A packet's rightness as one Boolean; a number in eight bytes. -/
import Derived.Test.YtldiipomcenbkaaQc
namespace Go.Proofs.Ytldiipomcenbkaa.Qw
open Go.RowKit Go.Proofs.YtldiipomcenbkaaW.PrintWords Go.Proofs.YtldiipomcenbkaaW.PrintLast Go.Proofs.YtldiipomcenbkaaW.PrintMore
set_option linter.unusedVariables false
set_option linter.unusedSimpArgs false
def epB (n : Int) : Bool := decide (0 ≤ n) && decide (n ≤ 281474976710656)
def aboutB (a0 a7 a8 a9 : Int) : Bool :=
  if a0 = 5 then idB a7 && epB a8 else if a0 = 4 then idB a7 && (a8 == 0) && (a9 == 0) else (a7 == 0) && (a8 == 0) && (a9 == 0)
def masterB (a1 a4 a5 : Int) : Bool := (a4 == 0) || (idB a4 && !(a4 == a1) && (a5 == 0))
def rightB (a0 a1 a2 a3 a4 a5 a6 a7 a8 a9 : Int) (l : List S48) : Bool :=
  (decide (1 ≤ a0) && decide (a0 ≤ 7) && idB a1) && (epB a2 && decide (0 ≤ a3) && decide (a3 ≤ a2)) && masterB a1 a4 a5 && epB a6 && aboutB a0 a7 a8 a9 && (secB a1 [] l && sizeB a0 l.length)
theorem id_f (n : Int) : wire_id.f n = some (idB n) := by
  unfold wire_id.f idB
  by_cases h : n ≥ 1
  · rw [if_pos h, decide_eq_true (show 1 ≤ n from h), Bool.true_and]
  · rw [if_neg h, decide_eq_false (show ¬ 1 ≤ n from h), Bool.false_and]
theorem epoch_f (n : Int) : wire_epoch.f n = some (epB n) := by
  unfold wire_epoch.f epB
  by_cases h : n ≥ 0
  · rw [if_pos h, decide_eq_true (show 0 ≤ n from h), Bool.true_and]
  · rw [if_neg h, decide_eq_false (show ¬ 0 ≤ n from h), Bool.false_and]
theorem about_f (a0 a1 a2 a3 a4 a5 a6 a7 a8 a9 : Int) (l : List S48) : wire_Packet_about.f a0 a1 a2 a3 a4 a5 a6 a7 a8 a9 l = some (aboutB a0 a7 a8 a9) := by
  unfold wire_Packet_about.f aboutB
  simp only [id_f, epoch_f, Option.bind_some]
  cases idB a7 <;> cases epB a8 <;> by_cases h5 : a0 = 5 <;> by_cases h4 : a0 = 4 <;> by_cases h7 : a7 = 0 <;> by_cases h8 : a8 = 0 <;> simp [h5, h4, h7, h8]
theorem right_f (a0 a1 a2 a3 a4 a5 a6 a7 a8 a9 : Int) (l : List S48) : wire_Packet_Right.f 4 a0 a1 a2 a3 a4 a5 a6 a7 a8 a9 l = some (rightB a0 a1 a2 a3 a4 a5 a6 a7 a8 a9 l) := by
  unfold wire_Packet_Right.f rightB masterB
  simp only [wire_Packet_Right.j0, wire_Packet_Right.j1, wire_Packet_Right.j2, id_f, epoch_f, about_f, wire_Packet_section.f, Option.bind_some]
  obtain ⟨s, hs⟩ : ∃ s, (secB a1 [] l && sizeB a0 l.length) = s := ⟨_, rfl⟩
  rw [hs]
  by_cases h0 : a0 < 1
  · simp [h0, show ¬ 1 ≤ a0 by omega]
  · by_cases h1 : a0 > 7
    · simp [h0, h1, show ¬ a0 ≤ 7 by omega]
    · by_cases h3 : a3 < 0
      · simp [h0, h1, h3, show 1 ≤ a0 by omega, show a0 ≤ 7 by omega, show ¬ 0 ≤ a3 by omega]
      · by_cases h4 : a3 > a2
        · simp [h0, h1, h3, h4, show 1 ≤ a0 by omega, show a0 ≤ 7 by omega, show ¬ a3 ≤ a2 by omega]
        · have e6 : epB a6 = (decide (0 ≤ a6) && decide (a6 ≤ 281474976710656)) := rfl
          rw [e6]
          simp only [if_neg h0, if_neg h1, if_neg h3, decide_eq_false h4, decide_eq_true (show 1 ≤ a0 by omega), decide_eq_true (show a0 ≤ 7 by omega), decide_eq_true (show 0 ≤ a3 by omega), decide_eq_true (show a3 ≤ a2 by omega)]
          by_cases h5 : a4 = 0
          · by_cases h6 : 0 ≤ a6 <;> by_cases h7 : a6 ≤ 281474976710656 <;> cases idB a1 <;> cases epB a2 <;> cases aboutB a0 a7 a8 a9 <;> cases s <;> simp [h5, h6, h7]
          · by_cases h8 : a4 = a1
            · subst h8
              by_cases h6 : 0 ≤ a6 <;> by_cases h7 : a6 ≤ 281474976710656 <;> cases idB a4 <;> cases epB a2 <;> cases aboutB a0 a7 a8 a9 <;> cases s <;> simp [h5, h6, h7]
            · by_cases h9 : a5 = 0 <;> by_cases h6 : 0 ≤ a6 <;> by_cases h7 : a6 ≤ 281474976710656 <;> cases idB a1 <;> cases idB a4 <;> cases epB a2 <;> cases aboutB a0 a7 a8 a9 <;> cases s <;> simp [h5, h6, h7, h8, h9]
theorem right_c (a0 a1 a2 a3 a4 a5 a6 a7 a8 a9 : Int) (A : Option Addr) (c : Nat) (l : List S48) (w : World) (hr : Kd.C k48 w A l.length l) (hc : l.length ≤ c) (r : Bool) (h : rightB a0 a1 a2 a3 a4 a5 a6 a7 a8 a9 l = r) :
    Calls Try.prog 13 #[.agg #[.int .i64 a0, .int .i64 a1, .int .i64 a2, .int .i64 a3, .int .i64 a4, .int .u64 a5, .int .i64 a6, .int .i64 a7, .int .i64 a8, .int .u64 a9, .slice A l.length c]] w fun e w' => e = .returned (.bool r) ∧ Below w.heap.size w w' :=
  wire_Packet_Right.calls 4 a0 a1 a2 a3 a4 a5 a6 a7 a8 a9 A c l r w hr hc (h ▸ right_f a0 a1 a2 a3 a4 a5 a6 a7 a8 a9 l)
/-- A number in eight bytes. -/
def e8 (n : Nat) : List Nat := [n / 72057594037927936 % 256, n / 281474976710656 % 256, n / 1099511627776 % 256, n / 4294967296 % 256, n / 16777216 % 256, n / 65536 % 256, n / 256 % 256, n % 256]
def iz (l : List Nat) : List Int := l.map fun (x : Nat) => (x : Int)
theorem iz_append (l m : List Nat) : iz (l ++ m) = iz l ++ iz m := List.map_append
theorem iz_length (l : List Nat) : (iz l).length = l.length := List.length_map _
theorem shr_nat (n j : Nat) (h : j ≤ 64) : (shr .u64 (n : Int) (j : Int)) % 256 = ((n / 2 ^ j % 256 : Nat) : Int) := by
  unfold shr
  rw [Int.toNat_natCast, show min j IntKind.u64.bits = j from Nat.min_eq_left h, Int.natCast_emod, Int.natCast_ediv, Int.natCast_pow]
  rfl
theorem put_step (k : Nat) (xs : List Nat) (n j : Nat) (hx : xs.length ≤ 1010) (hj : j ≤ 56) : wire_put.l0 (k + 1) (iz xs) n (j : Int) = wire_put.l0 k (iz (xs ++ [n / 2 ^ j % 256])) n ((j : Int) - 8) := by
  have hw : wrap64 ((j : Int) - 8) = (j : Int) - 8 := by unfold wrap64; omega
  have hl : (iz xs).length < 140737488355328 := by rw [iz_length]; omega
  rw [wire_put.l0.eq_2, if_pos (show (j : Int) ≥ 0 by omega), if_pos (show 0 ≤ (j : Int) by omega), if_pos hl, hw, shr_nat n j (by omega), iz_append]
  rfl
theorem put_f (xs : List Nat) (n : Nat) (hl : xs.length ≤ 1000) : wire_put.f 9 (iz xs) n = some (iz (xs ++ e8 n)) := by
  unfold wire_put.f
  rw [show (56 : Int) = ((56 : Nat) : Int) from rfl, put_step 8 _ n 56 (by omega) (by omega)]
  rw [show ((56 : Nat) : Int) - 8 = ((48 : Nat) : Int) from rfl, put_step 7 _ n 48 (by simp; omega) (by omega)]
  rw [show ((48 : Nat) : Int) - 8 = ((40 : Nat) : Int) from rfl, put_step 6 _ n 40 (by simp; omega) (by omega)]
  rw [show ((40 : Nat) : Int) - 8 = ((32 : Nat) : Int) from rfl, put_step 5 _ n 32 (by simp; omega) (by omega)]
  rw [show ((32 : Nat) : Int) - 8 = ((24 : Nat) : Int) from rfl, put_step 4 _ n 24 (by simp; omega) (by omega)]
  rw [show ((24 : Nat) : Int) - 8 = ((16 : Nat) : Int) from rfl, put_step 3 _ n 16 (by simp; omega) (by omega)]
  rw [show ((16 : Nat) : Int) - 8 = ((8 : Nat) : Int) from rfl, put_step 2 _ n 8 (by simp; omega) (by omega)]
  rw [show ((8 : Nat) : Int) - 8 = ((0 : Nat) : Int) from rfl, put_step 1 _ n 0 (by simp; omega) (by omega)]
  rw [wire_put.l0.eq_2, if_neg (by decide)]
  congr 2
  simp only [List.append_assoc, List.cons_append, List.nil_append]
  congr 1
  unfold e8
  simp
/-- A row of bytes of the call's own, since w0. -/
def Own (w0 w : World) (v : Value) (xs : List Nat) : Prop := Kd.R (Kd.int .u8) 5 w w0.heap.size (fun _ => True) v (iz xs)
theorem put_c (xs : List Nat) (n : Nat) (hl : xs.length ≤ 1000) (w0 w : World) (hB : Below w0.heap.size w0 w) (u : Value) (ho : Own w0 w u xs) :
    Calls Try.prog 20 #[u, .int .u64 n] w fun e w' => ∃ v, e = .returned v ∧ Own w0 w' v (xs ++ e8 n) ∧ Below w0.heap.size w0 w' :=
  (wire_put.calls 9 (fun _ => True) u (iz xs) n (iz (xs ++ e8 n)) w0 w hB ho (put_f xs n hl)).mono fun e w' ⟨v, h1, h2, h3, _⟩ => ⟨v, h1, Kd.R_mono h2 (fun _ _ => trivial), h3⟩
end Go.Proofs.Ytldiipomcenbkaa.Qw
