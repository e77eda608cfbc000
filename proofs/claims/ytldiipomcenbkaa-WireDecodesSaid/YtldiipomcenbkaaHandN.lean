/- The document's number and frame, by hand. -/
import Derived.Test.YtldiipomcenbkaaHandT
import Derived.Test.YtldiipomcenbkaaHandZ
import Derived.BigRegion
namespace Go.Proofs.Ytldiipomcenbkaa.Qw
open Go.RowKit Go.Proofs.YtldiipomcenbkaaW.PrintWords Go.Proofs.YtldiipomcenbkaaW.PrintLast Go.Proofs.YtldiipomcenbkaaW.PrintMore
open HandS (Bytes byte_at add_block)
set_option linter.unusedVariables false
set_option linter.unusedSimpArgs false

theorem num_low (n c : Nat) (hn : n < 72057594037927936) (hc : c < 256) : IntKind.u64.wrap ((n : Int) * 256) = (n : Int) * 256 ∧ IntKind.u64.wrap (c : Int) = c ∧ IntKind.u64.wrap ((n : Int) * 256 + c) = ((n * 256 + c : Nat) : Int) := by
  refine ⟨?_, ?_, ?_⟩ <;> rw [wrap_u64] <;> omega
set_option maxRecDepth 100000 in
theorem number_c (a : Option Addr) (cap len : Nat) (l : List Nat) (t : Nat) (w : World) (hl : Bytes w a len l) (h8 : t + 8 ≤ len) (hc : len ≤ cap) :
    Calls Try.prog 35 #[.slice a len cap, .int .i64 t] w fun e w' => e = .returned (.int .u64 (num8 (l.drop t) : Nat)) ∧ w' = w := by
  have HL := Aside0.mk hl
  have hlen := hl.2.1
  have HR : Aside0 (num8 (l.drop t) = fold8 ((l.drop t).take 8)) := Aside0.mk rfl
  clear hl
  obtain ⟨w0, hw0⟩ : ∃ w0, w0 = w := ⟨_, rfl⟩
  subst hw0
  go_enter Try.func35, Try.ntmps35
  go_wp2
  go_loopw [5, 6] (fun c i wr => ∃ j : Nat, j ≤ 8 ∧ i = .int .i64 ((t + j : Nat) : Int) ∧ c = .int .u64 (fold8 ((l.drop t).take j) : Nat) ∧ wr = w0) (fun _ i _ => t + 8 - (intOf i).toNat)
  case atStart => exact ⟨0, by omega, rfl, rfl, rfl⟩
  case round =>
    obtain ⟨j, hj, rfl, rfl, rfl⟩ := hrel
    by_cases hlt : j < 8
    · have hlt2 : ((t + j : Nat) : Int) < (t : Int) + 8 := by omega
      obtain ⟨ad, rfl, hcell⟩ := HL.out.at (i := t + j) (by omega)
      have hll : (l.drop t).length = len - t := by rw [List.length_drop, HL.out.1]
      have hs : fold8 ((l.drop t).take (j + 1)) = fold8 ((l.drop t).take j) * 256 + l.getD (t + j) 0 := by
        rw [take_getD (l.drop t) j (by rw [hll]; omega), fold8_snoc, List.getD_eq_getElem?_getD, List.getElem?_drop, ← List.getD_eq_getElem?_getD]
      have hx := byte_at HL.out.2.2.1 (t + j)
      have hn : fold8 ((l.drop t).take j) < 72057594037927936 := by
        have h1 := fold8_lt ((l.drop t).take j) (fun x hx => HL.out.2.2.1 x (List.mem_of_mem_drop (List.mem_of_mem_take hx)))
        have h2 : 256 ^ ((l.drop t).take j).length ≤ 256 ^ 7 := Nat.pow_le_pow_right (by decide) (by rw [List.length_take]; omega)
        exact Nat.lt_of_lt_of_le h1 h2
      obtain ⟨n, hne⟩ : ∃ n, fold8 ((l.drop t).take j) = n := ⟨_, rfl⟩
      obtain ⟨x, hxe⟩ : ∃ x, l.getD (t + j) 0 = x := ⟨_, rfl⟩
      rw [hne, hxe] at hs
      rw [hne] at hn ⊢
      rw [hxe] at hx hcell
      obtain ⟨hn1, hn2, hn3⟩ := num_low n x hn hx
      have HS := Aside0.mk hs
      clear hs hne hxe
      obtain ⟨u, hu⟩ : ∃ u, t + j = u := ⟨_, rfl⟩
      have HU := Aside0.mk hu
      rw [hu] at hcell hlt2 ⊢
      have hul : u < len := by omega
      clear hll hn
      go_wp2
      exact ⟨⟨j + 1, by omega, by have := HU.out; go_num, by rw [HS.out, Int.natCast_add, Int.natCast_mul]; rfl, trivial⟩, by have := HU.out; simp [intOf]; omega⟩
    · have hge : ¬ ((t + j : Nat) : Int) < (t : Int) + 8 := by omega
      obtain rfl : j = 8 := by omega
      rw [← HR.out]
      go_wp2
      go_ret
      exact ⟨rfl, rfl⟩
end Go.Proofs.Ytldiipomcenbkaa.Qw
