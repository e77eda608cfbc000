/- SlotBits by hand: up to sixteen bits in a row that are turned give another sum. -/
import Derived.Test.YtjgickfndcfgfaaHandBits
import Derived.Test.YtjgickfndcfgfaaOwnSlotLinear
import Derived.Test.YtjgickfndcfgfaaOwnSlotParts
namespace Go.Proofs.Ytjgickfndcfgfaa.HandS
open Go.RowKit Go.Proofs.Ytjgickfndcfgfaa.HandC
set_option linter.unusedVariables false
set_option linter.unusedSimpArgs false
theorem i64_and1 (n : Int) : bits .and .i64 n 1 = n % 2 := by
  have h1 : (BitVec.ofInt 64 1).toNat = 2 ^ 1 - 1 := by decide
  have key : (BitVec.ofInt 64 n &&& BitVec.ofInt 64 1).toNat = (n % ((2 ^ 64 : Nat) : Int)).toNat % 2 ^ 1 := by
    rw [BitVec.toNat_and, BitVec.toNat_ofInt, h1, Nat.and_two_pow_sub_one_eq_mod]
  show IntKind.i64.wrap ((BitVec.ofInt 64 n &&& BitVec.ofInt 64 1).toNat : Nat) = n % 2
  rw [key, IntKind.wrap_i64]
  omega
theorem frozen_cells {w : World} {g i e : Nat} {cur : Array Value} (h : w.heap[g]? = some (.cells cur e (0, 0))) : w.frozen? ⟨g, i, none⟩ = false := by
  simp [World.frozen?, h]
section
variable {ops : Array Oper} {rest : List Oper} {o : Oper} {a : Act} {Q : Exit → Act → World → Prop} {w W : World}
/-- append onto the empty slice: a copy. -/
theorem append_copy {l : List Nat} (hgd : o.guard = none) (s x : Operand) (ho : o.op = .call { callee := .builtin .append, args := #[s, x], argTypes := #[22, 22] })
    (g0 : Nat) (hs : a.eval s = .slice (some ⟨g0, 0, none⟩) 0 0) (hW : Below w.heap.size w W) (hg0 : W.heap[g0]? = some (.cells #[] 5 (0, 0))) (hb0 : w.heap.size ≤ g0)
    (ad : Addr) (n c : Nat) (hx : a.eval x = .slice (some ad) n c) (hm : Bytes w (some ad) n l) (h0 : 0 < n) (hlen : n ≤ 10000)
    (h : ∀ g cap w', Ob w' g n l → w.heap.size ≤ g → Below w.heap.size w w' → wpList Try.prog ops Q rest (a.put o.dst (.slice (some ⟨g, 0, none⟩) n cap)) w') : wpList Try.prog ops Q (o :: rest) a W := by
  obtain ⟨i0, hi, hzz⟩ := Option.map_eq_some_iff.1 info5'
  simp only [Prod.mk.injEq] at hzz
  obtain ⟨hz0, hz1, hz2⟩ := hzz
  have hown : W.ownsRow w.heap.size 5 1 (.slice (some ⟨g0, 0, none⟩) 0 0) 0 [] := ⟨rfl, .inr ⟨g0, 0, #[], rfl, hb0, hg0, Nat.le_refl _, by decide, rfl, rfl⟩⟩
  refine wpList_append_lies W hgd s x 22 ho w.heap.size 5 i0 _ 1 1 Try.underlying22 hi hz0 hz1 hz2 rfl (by decide) _ 0 [] hs hown ad n c (enc8 l) hx (by simp [enc8, hm.1]) (fun j u hu => ?_) (fun u hu => by
    obtain ⟨y, _, rfl⟩ := List.mem_map.1 hu
    rfl) h0 (by unfold maxLen; omega) (by omega) hW.size _ rfl ?_
  · have hc := enc8_cells hm j u hu
    exact (hW.cell (World.block_lt_of_cell? w _ hc)).trans hc
  · intro g cap w' hown' hgrow hat hlt
    rw [Nat.zero_add] at hown' ⊢
    rw [List.nil_append] at hown'
    have hg : w.heap.size ≤ g := (hown'.lt g rfl).1
    refine h g cap w' ⟨⟨hm.1, hm.2.1, hm.2.2.1, fun _ => ⟨_, rfl, fun i hi' => ?_⟩⟩, hlt, fun i => ?_⟩ hg (hW.grown hgrow hW.size (fun k hk => (hown.lt k hk).1))
    · refine hown'.cells (g := g) rfl i _ ?_
      have hil : i < l.length := by rw [hm.1]; exact hi'
      unfold enc8
      rw [List.getElem?_map, List.getElem?_eq_getElem hil, List.getD_eq_getElem?_getD, List.getElem?_eq_getElem hil]
      rfl
    · rcases hown'.2 with ⟨h1, _⟩ | ⟨g', cap', cur, h1, _, h2, _⟩
      · cases h1
      · have : g = g' := by injection h1 with h3; injection h3 with h4; injection h4
        subst this
        exact frozen_cells h2
end
attribute [local go_sem] i64_and1
set_option maxRecDepth 100000 in
set_option maxHeartbeats 8000000 in
theorem bits_in (a : Option Addr) (cap len : Nat) (l : List Nat) (at_ bits : Nat) (w : World) (s : Bytes w a len l) (h4000 : len ≤ 4000) (hat : at_ < 8 * len) (hb1 : 1 ≤ bits) (hb2 : bits ≤ 65535) : Calls Try.prog 6 #[.slice a len cap, .int .i64 at_, .int .i64 bits] w fun e w' => e = .returned (.bool true) ∧ Below w.heap.size w w' := by
  obtain ⟨ad, rfl, _⟩ := s.2.2.2 (by omega)
  have HL := Aside0.mk s
  clear s
  have hat2 : (at_ : Int) < 8 * len := by omega
  go_enter Try.func6, Try.ntmps6
  go_wp2_with (first
    | (go_at_call 11; with_reducible refine (anchor_c _).mono ?_; rintro e w1 ⟨rfl, hb⟩; have HB := Aside0.mk hb; clear hb)
    | (at_builtin; refine append_copy (w := w) (l := l) rfl _ _ rfl w1.heap.size rfl (HB.out.alloc HB.out.size _) (heap_alloc_new _ _) HB.out.size ad len cap rfl HL.out (by omega) (by omega) ?_; intro g cap' w2 hO hg hbel; have HO := Aside0.mk hO; have HG := Aside0.mk hg; have HB2 := Aside0.mk hbel; clear hO hg hbel))
  go_loopw [37] (fun i wr => ∃ (k : Nat) (c : List Nat), k ≤ 16 ∧ i = .int .i64 k ∧ Ob wr g len c ∧ Below w.heap.size w wr ∧ crc 0 c = crc 0 l ^^^ bsn (8 * len - at_) (wrd bits k)) (fun i _ => 16 - (intOf i).toNat)
  case atStart => exact ⟨0, l, by omega, rfl, HO.out, HB2.out, by show _ = _ ^^^ bsn _ 0; rw [bsn_of_zero, Nat.xor_zero]⟩
  case round =>
    clear HO HB2
    obtain ⟨k, c, hk, rfl, hO, hB, hcr⟩ := hrel
    have HO := Aside0.mk hO
    have HB2 := Aside0.mk hB
    have HC := Aside0.mk hcr
    clear hO hB hcr
    by_cases hlt : k < 16
    · have hlt2 : (k : Int) < 16 := by omega
      go_upto_region 10 with fail
      · have h : ((bits : Int) / 2 ^ k % 2 == 0) = true := by assumption
        have hb : ¬ bits / 2 ^ k % 2 = 1 := by
          have h2 := beq_iff_eq.1 h
          have h3 : ((bits / 2 ^ k % 2 : Nat) : Int) = (bits : Int) / 2 ^ k % 2 := by push_cast; rfl
          omega
        exact ⟨⟨k + 1, c, by omega, by go_num, HO.out, HB2.out, by rw [wrd_same bits k hb]; exact HC.out⟩, by simp [intOf]; omega⟩
      · have h : ((bits : Int) / 2 ^ k % 2 == 0) = false := by assumption
        have hb : bits / 2 ^ k % 2 = 1 := by
          have h2 := beq_eq_false_iff_ne.1 h
          have h3 : ((bits / 2 ^ k % 2 : Nat) : Int) = (bits : Int) / 2 ^ k % 2 := by push_cast; rfl
          omega
        have HB1 := Aside0.mk hb
        clear hb
        by_cases hq : (at_ + k) / 8 < len
        · have hq2 : ((at_ : Int) + k) / 8 < len := by omega
          go_upto_region 13 with fail
          obtain ⟨q, hqe⟩ : ∃ q, (at_ + k) / 8 = q := ⟨_, rfl⟩
          obtain ⟨t, hte⟩ : ∃ t, (at_ + k) % 8 = t := ⟨_, rfl⟩
          have e1 : ((at_ : Int) + k) / 8 = (q : Nat) := by omega
          have e2 : ((at_ : Int) + k) % 8 = (t : Nat) := by omega
          have ht8 : t < 8 := by omega
          obtain ⟨v, hve⟩ : ∃ v, 2 ^ (7 - t) = v := ⟨_, rfl⟩
          have e3 : (128 : Int) / 2 ^ t = (v : Nat) := by
            rw [← hve]
            have : t = 0 ∨ t = 1 ∨ t = 2 ∨ t = 3 ∨ t = 4 ∨ t = 5 ∨ t = 6 ∨ t = 7 := by omega
            rcases this with h | h | h | h | h | h | h | h <;> rw [h] <;> decide
          have hv : v < 256 := by
            rw [← hve]
            have : 2 ^ (7 - t) < 2 ^ 8 := Nat.pow_lt_pow_right (by decide) (by omega)
            exact this
          have hql : q < len := by omega
          have hql2 : (q : Int) < len := by omega
          have hst := turn_step l c len at_ bits k HO.out.row.1 HO.out.row.2.2.1 hlt (by omega) HB1.out HC.out
          rw [hqe, hte, hve] at hst
          have hx := byte_at HO.out.row.2.2.1 q
          have hcell := HO.out.cell hql
          have hfree := HO.out.free q
          obtain ⟨x, hxe⟩ : ∃ x, c.getD q 0 = x := ⟨_, rfl⟩
          rw [hxe] at hst hx hcell
          have h8 := xor8 x v hx hv
          have hz : x ^^^ v < 256 := xor_lt 8 hx hv
          obtain ⟨z, hze⟩ : ∃ z, x ^^^ v = z := ⟨_, rfl⟩
          rw [hze] at hst h8 hz
          have HST := Aside0.mk hst
          have N1 := Aside0.mk (HO.out.set hql hz)
          have N3 := Aside0.mk ((Near.set g q wr (.int .u8 (z : Nat))).to0 HB2.out HG.out)
          have ht64 : (t : Int) < 8 := by omega
          clear hst hze hxe hve hqe hte hq hq2 hlt
          go_region
          all_goals go_wp2
          all_goals exact ⟨⟨k + 1, c.set q z, by omega, by go_num, N1.out.drew, N3.out.drew, HST.out⟩, by simp [intOf]; omega⟩
        · have hq2 : (len : Int) ≤ ((at_ : Int) + k) / 8 := by omega
          go_wp2
          go_ret
          exact ⟨rfl, HB2.out⟩
    · have hge : 16 ≤ (k : Int) := by omega
      obtain rfl : k = 16 := by omega
      obtain ⟨r, hr⟩ : ∃ r, crc 0 l = r := ⟨_, rfl⟩
      obtain ⟨q, hq⟩ : ∃ q, crc 0 c = q := ⟨_, rfl⟩
      have hne : r ≠ q := by rw [← hr, ← hq]; exact turned l c len at_ bits hb1 hb2 HC.out
      have hne2 : ((r : Int) != q) = true := bne_iff_ne.mpr (by omega)
      have R := Aside0.mk hr
      have Q := Aside0.mk hq
      clear hr hq hne HC
      go_wp2_with (first
        | (go_at_call 12; with_reducible refine (new_h w _ HB2.out).mono ?_; rintro e w3 ⟨b, rfl, hm, hbel, hb⟩; have HH := Aside0.mk hm; have hgb : g ≠ b := (by have := HO.out.lt; omega); have HO2 := Aside0.mk (HO.out.near ⟨hbel.os, hbel.tape, hbel.output, hbel.size, fun k hk _ => hbel.block k hk⟩ hgb); clear hm hbel hb HO HB2)
        | (go_at_call 14; with_reducible refine (sum_h w _ b HH.out _ _ _ l (HL.out.now HH.out) (HL.out.far HH.out) r R.out).mono ?_; rintro e w4 ⟨rfl, hm, hn⟩; have HH2 := Aside0.mk hm; have HO3 := Aside0.mk (HO2.out.near hn hgb); clear hm hn HH HO2)
        | (go_at_call 12; with_reducible refine (new_h w _ HH2.out.bel).mono ?_; rintro e w5 ⟨d, rfl, hm, hbel, hd⟩; have HH3 := Aside0.mk hm; have hgd : g ≠ d := (by have := HO3.out.lt; omega); have HO4 := Aside0.mk (HO3.out.row.below hbel); clear hm hbel hd)
        | (go_at_call 14; with_reducible refine (sum_h w _ d HH3.out _ _ _ c HO4.out (fun ad e _ => by cases e; exact hgd) q Q.out).mono ?_; rintro e w6 ⟨rfl, hm, -⟩; have HH4 := Aside0.mk hm; clear hm))
      go_ret
      exact ⟨by simp [hne2], HH4.out.bel⟩
theorem bits_out (a : Option Addr) (cap len : Nat) (at_ bits : Int) (w : World) (hlen : len ≤ 9223372036854775807) (h : 4000 < len ∨ (len ≤ 4000 ∧ at_ < 0) ∨ (len ≤ 4000 ∧ 0 ≤ at_ ∧ 8 * (len : Int) ≤ at_) ∨ (len ≤ 4000 ∧ 0 ≤ at_ ∧ at_ < 8 * (len : Int) ∧ bits < 1) ∨ (len ≤ 4000 ∧ 0 ≤ at_ ∧ at_ < 8 * (len : Int) ∧ 1 ≤ bits ∧ 65535 < bits)) : Calls Try.prog 6 #[.slice a len cap, .int .i64 at_, .int .i64 bits] w fun e w' => e = .returned (.bool true) ∧ Below w.heap.size w w' := by
  rcases h with h | ⟨h, h1⟩ | ⟨h, h1, h2⟩ | ⟨h, h1, h2, h3⟩ | ⟨h, h1, h2, h3, h4⟩
  all_goals (go_enter Try.func6, Try.ntmps6)
  all_goals go_wp2_with (go_at_call 11; with_reducible refine (anchor_c _).mono ?_; rintro e w1 ⟨rfl, hb⟩; have HB := Aside0.mk hb; clear hb)
  all_goals go_ret
  all_goals exact ⟨rfl, HB.out⟩
theorem bits_calls (a : Option Addr) (cap len : Nat) (l : List Nat) (at_ bits : Int) (w : World) (s : Bytes w a len l) (hc : len ≤ cap) : Calls Try.prog 6 #[.slice a len cap, .int .i64 at_, .int .i64 bits] w fun e w' => e = .returned (.bool true) ∧ Below w.heap.size w w' := by
  by_cases h : len ≤ 4000 ∧ 0 ≤ at_ ∧ at_ < 8 * (len : Int) ∧ 1 ≤ bits ∧ bits ≤ 65535
  · obtain ⟨h1, h2, h3, h4, h5⟩ := h
    obtain ⟨n, rfl⟩ : ∃ n : Nat, at_ = n := ⟨at_.toNat, by omega⟩
    obtain ⟨m, rfl⟩ : ∃ m : Nat, bits = m := ⟨bits.toNat, by omega⟩
    exact bits_in a cap len l n m w s h1 (by omega) (by omega) (by omega)
  · exact bits_out a cap len at_ bits w s.2.1 (by omega)
end Go.Proofs.Ytjgickfndcfgfaa.HandS
