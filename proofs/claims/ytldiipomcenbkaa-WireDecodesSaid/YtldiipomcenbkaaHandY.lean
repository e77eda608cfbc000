/- wire.get and wire.framed, by hand. -/
import Derived.Test.YtldiipomcenbkaaHandE
namespace Go.Proofs.Ytldiipomcenbkaa.Qw
open Go.RowKit Go.Proofs.YtldiipomcenbkaaW.PrintWords Go.Proofs.YtldiipomcenbkaaW.PrintLast Go.Proofs.YtldiipomcenbkaaW.PrintMore
open HandS (Bytes byte_at add_block)
set_option linter.unusedVariables false
set_option linter.unusedSimpArgs false
theorem Bytes_take {w : World} {a : Option Addr} {len : Nat} {l : List Nat} (h : Bytes w a len l) {n : Nat} (hn : n ≤ len) : Bytes w a n (l.take n) := by
  refine ⟨by rw [List.length_take, h.1]; omega, by have := h.2.1; omega, fun x hx => h.2.2.1 x (List.mem_of_mem_take hx), fun hp => ?_⟩
  obtain ⟨ad, h1, h2⟩ := h.2.2.2 (by omega)
  refine ⟨ad, h1, fun i hi => ?_⟩
  rw [h2 i (by omega), List.getD_eq_getElem?_getD, List.getD_eq_getElem?_getD, List.getElem?_take, if_pos hi]
theorem add_add (ad : Addr) (i j : Nat) : (ad.add i).add j = ad.add (i + j) := by
  unfold Addr.add
  by_cases h1 : i = 0 <;> by_cases h2 : j = 0 <;> simp [h1, h2, Nat.add_assoc]
theorem Bytes_drop {w : World} {a : Option Addr} {len : Nat} {l : List Nat} (h : Bytes w a len l) {n : Nat} (hn : n ≤ len) : Bytes w (a.map (·.add n)) (len - n) (l.drop n) := by
  refine ⟨by rw [List.length_drop, h.1], by have := h.2.1; omega, fun x hx => h.2.2.1 x (List.mem_of_mem_drop hx), fun hp => ?_⟩
  obtain ⟨ad, h1, h2⟩ := h.2.2.2 (by omega)
  refine ⟨ad.add n, by rw [h1]; rfl, fun i hi => ?_⟩
  rw [add_add, h2 (n + i) (by omega), List.getD_eq_getElem?_getD, List.getD_eq_getElem?_getD, List.getElem?_drop]
theorem cut1 (a : Option Addr) (len cap at_ : Nat) (w : World) (h1 : at_ ≤ cap) (h2 : len ≤ cap) : (Instr.slice 32 (.slice a len cap) none (some (.int .i64 (at_ : Int))) none).run Try.prog w = .ok (.slice a at_ cap) w := by
  rw [run_slice_h w 32 a len cap Try.underlying32 .i64 at_ (by omega) (by omega)]
  rw [show (sizeOf (Try.prog.elem 32)).run Try.prog w = .ok 1 w by kernel_rfl]
  simp [Result.andThen, sliced]
  intro _
  cases a with
  | none => rfl
  | some ad => simp [Addr.add]
theorem cut2 (a : Option Addr) (len cap at_ : Nat) (w : World) (h1 : at_ ≤ len) (h2 : len ≤ cap) : (Instr.slice 32 (.slice a len cap) (some (.int .i64 (at_ : Int))) none none).run Try.prog w = .ok (.slice (if cap = at_ then a else a.map (·.add at_)) (len - at_) (cap - at_)) w := by
  rw [run_slice_l w 32 a len cap Try.underlying32 .i64 at_ (by omega) (by omega)]
  rw [show (sizeOf (Try.prog.elem 32)).run Try.prog w = .ok 1 w by kernel_rfl]
  simp [Result.andThen, sliced]
theorem or_nat (k : IntKind) (j : Nat) (hj : j ≤ k.bits) (hk : ∀ n : Int, 0 ≤ n → n < 2 ^ j → k.wrap n = n) (a b : Nat) (ha : a < 2 ^ j) (hb : b < 2 ^ j) : bits .or k (a : Int) (b : Int) = ((a ||| b : Nat) : Int) := by
  have h2 : 2 ^ j ≤ 2 ^ k.bits := Nat.pow_le_pow_right (by decide) hj
  show k.wrap (((BitVec.ofInt k.bits a) ||| (BitVec.ofInt k.bits b)).toNat : Nat) = _
  rw [BitVec.toNat_or, BitVec.ofInt_natCast, BitVec.ofInt_natCast, BitVec.toNat_ofNat, BitVec.toNat_ofNat, Nat.mod_eq_of_lt (by omega), Nat.mod_eq_of_lt (by omega)]
  have := Nat.or_lt_two_pow ha hb
  exact hk _ (by omega) (by exact_mod_cast this)
theorem or_low (n c : Nat) (hn : n < 72057594037927936) (hc : c < 256) : bits .or .u64 ((n : Int) * 256) (c : Int) = ((n * 256 + c : Nat) : Int) := by
  have h := or_nat .u64 64 (by decide) (fun m h1 h2 => by rw [wrap_u64]; omega) (n * 256) c (by omega) (by omega)
  have e : n * 256 ||| c = n * 256 + c := by
    have := Nat.shiftLeft_add_eq_or_of_lt (i := 8) (b := c) (by omega) n
    rw [Nat.shiftLeft_eq] at this
    exact this.symm
  rw [e, show ((n * 256 : Nat) : Int) = (n : Int) * 256 from Int.natCast_mul n 256] at h
  exact h
theorem or_low64 (n c : Nat) (hn : n < 256) (hc : c < 256) : bits .or .i64 ((n : Int) * 256) (c : Int) = ((n * 256 + c : Nat) : Int) := by
  have h := or_nat .i64 16 (by decide) (fun m h1 h2 => by rw [HandC.wrap_i64]; omega) (n * 256) c (by omega) (by omega)
  have e : n * 256 ||| c = n * 256 + c := by
    have := Nat.shiftLeft_add_eq_or_of_lt (i := 8) (b := c) (by omega) n
    rw [Nat.shiftLeft_eq] at this
    exact this.symm
  rw [e, show ((n * 256 : Nat) : Int) = (n : Int) * 256 from Int.natCast_mul n 256] at h
  exact h
def fold8 (l : List Nat) : Nat := l.foldl (fun n c => n * 256 + c) 0
/-- A number of its first eight bytes. -/
def num8 (l : List Nat) : Nat := fold8 (l.take 8)
theorem fold8_snoc (l : List Nat) (c : Nat) : fold8 (l ++ [c]) = fold8 l * 256 + c := by unfold fold8; rw [List.foldl_append]; rfl
theorem fold_lt (l : List Nat) : ∀ a : Nat, (∀ x ∈ l, x < 256) → l.foldl (fun n c => n * 256 + c) a < (a + 1) * 256 ^ l.length := by
  induction l with
  | nil => intro a _; simp
  | cons c l ih =>
    intro a h
    have h1 := ih (a * 256 + c) (fun x hx => h x (List.mem_cons_of_mem _ hx))
    have h2 := h c List.mem_cons_self
    rw [List.foldl_cons, List.length_cons, Nat.pow_succ, Nat.mul_comm (256 ^ l.length) 256, ← Nat.mul_assoc]
    exact Nat.lt_of_lt_of_le h1 (Nat.mul_le_mul_right _ (by omega))
theorem fold8_lt (l : List Nat) (h : ∀ x ∈ l, x < 256) : fold8 l < 256 ^ l.length := by
  have := fold_lt l 0 h
  simpa [fold8] using this
theorem take_getD (l : List Nat) (j : Nat) (hj : j < l.length) : l.take (j + 1) = l.take j ++ [l.getD j 0] := by
  rw [List.take_succ_eq_append_getElem hj, List.getD_eq_getElem?_getD, List.getElem?_eq_getElem hj]
  rfl
set_option maxRecDepth 100000 in
theorem get_c (a : Option Addr) (cap len : Nat) (l : List Nat) (w : World) (hl : Bytes w a len l) (h8 : 8 ≤ len) (hc : len ≤ cap) :
    Calls Try.prog 31 #[.slice a len cap] w fun e w' => e = .returned (.int .u64 (num8 l : Nat)) ∧ w' = w := by
  have HL := Aside0.mk hl
  have hlen := hl.2.1
  have hcut := fun W => cut1 a len cap 8 W (by omega) hc
  have HR : Aside0 (num8 l = fold8 (l.take 8)) := Aside0.mk rfl
  clear hl
  obtain ⟨w0, hw0⟩ : ∃ w0, w0 = w := ⟨_, rfl⟩
  subst hw0
  go_enter Try.func31, Try.ntmps31
  go_wp2
  go_loopw [3, 9] (fun c i wr => ∃ j : Nat, j ≤ 8 ∧ i = .int .i64 j ∧ c = .int .u64 (fold8 (l.take j) : Nat) ∧ wr = w0) (fun _ i _ => 8 - (intOf i).toNat)
  case atStart => exact ⟨0, by omega, rfl, rfl, rfl⟩
  case round =>
    obtain ⟨j, hj, rfl, rfl, rfl⟩ := hrel
    by_cases hlt : j < 8
    · have hlt2 : (j : Int) < 8 := by omega
      obtain ⟨ad, rfl, hcell⟩ := HL.out.at (i := j) (by omega)
      have hs : fold8 (l.take (j + 1)) = fold8 (l.take j) * 256 + l.getD j 0 := by rw [take_getD l j (by rw [HL.out.1]; omega), fold8_snoc]
      have hx := byte_at HL.out.2.2.1 j
      have hn : fold8 (l.take j) < 72057594037927936 := by
        have h1 := fold8_lt (l.take j) (fun x hx => HL.out.2.2.1 x (List.mem_of_mem_take hx))
        have h2 : 256 ^ (l.take j).length ≤ 256 ^ 7 := Nat.pow_le_pow_right (by decide) (by rw [List.length_take]; omega)
        exact Nat.lt_of_lt_of_le h1 h2
      obtain ⟨n, hne⟩ : ∃ n, fold8 (l.take j) = n := ⟨_, rfl⟩
      obtain ⟨x, hxe⟩ : ∃ x, l.getD j 0 = x := ⟨_, rfl⟩
      rw [hne, hxe] at hs
      rw [hne] at hn ⊢
      rw [hxe] at hx hcell
      have hor := or_low n x hn hx
      have HS := Aside0.mk hs
      clear hs hne hxe
      go_wp2
      exact ⟨⟨j + 1, by omega, by go_num, by rw [HS.out, Int.natCast_add, Int.natCast_mul]; rfl, trivial⟩, by simp [intOf]; omega⟩
    · have hge : (8 : Int) ≤ j := by omega
      obtain rfl : j = 8 := by omega
      rw [← HR.out]
      go_wp2
      go_ret
      exact ⟨rfl, rfl⟩
theorem new_any (w0 W : World) (h : Below w0.heap.size w0 W) : Calls Try.prog 21 #[] W fun e w' => ∃ b, e = .returned (.pointer (some ⟨b, 0, none⟩)) ∧ HandS.Hh w' b ∧ w0.heap.size ≤ b ∧ Below w0.heap.size w0 w' :=
  (HandS.new_c W).mono fun e w' ⟨h1, h2, h3⟩ => ⟨W.heap.size, h1, .inl h2, h.size, h.trans (h3.mono h.size)⟩
theorem sum_any (w0 W : World) (b : Nat) (hh : HandS.Hh W b) (hb : w0.heap.size ≤ b) (hB : Below w0.heap.size w0 W) (a : Option Addr) (cap len : Nat) (l : List Nat) (hl : Bytes w0 a len l) (r : Nat) (hr : HandC.crc 0 l = r) :
    Calls Try.prog 22 #[.pointer (some ⟨b, 0, none⟩), .slice a len cap] W fun e w' => e = .returned (.int .i64 r) ∧ Below w0.heap.size w0 w' :=
  (HandS.sum_c W b hh a cap len l (hl.below hB) (fun ad e hp => by have := hl.lt ad e hp; omega)).mono fun e w' ⟨h1, h2, h3⟩ => ⟨hr ▸ h1, h3.to hB hb (Nat.le_refl _)⟩
theorem Hh_drew {w : World} {b : Nat} (h : HandS.Hh w b) : HandS.Hh w.drew b := h.imp (fun h => h.drew) (fun h => h.drew)
/-- What isn't right of the bytes as a whole. -/
def frameN (l : List Nat) : Nat :=
  if l.length < 4 then 11
  else if (l.getD 0 0 != 71) || (l.getD 1 0 != 86) then 10
  else if (l.getD 2 0 != 1) || decide (l.getD 3 0 < 1) || decide (l.getD 3 0 > 7) then 13
  else if l.length < 77 then 11
  else if l.getD 76 0 > 3 then 12
  else if l.length < 79 + 9 * l.getD 76 0 then 11
  else if l.length > 79 + 9 * l.getD 76 0 then 10
  else if HandC.crc 0 (l.take (l.length - 2)) ≠ l.getD (l.length - 2) 0 * 256 + l.getD (l.length - 1) 0 then 14
  else 0
theorem bne_cast (x y : Nat) (b : Bool) (h : (x != y) = b) : ((x : Int) != (y : Int)) = b := by
  rw [← h]
  cases e : (x != y) with
  | true => exact bne_iff_ne.mpr (by have := bne_iff_ne.mp e; omega)
  | false => rw [bne_eq_false_iff_eq] at e ⊢; omega
theorem lt_cast (x y : Nat) (b : Bool) (h : decide (x < y) = b) : decide ((x : Int) < (y : Int)) = b := by
  rw [← h]
  exact decide_eq_decide.mpr (by omega)
set_option maxRecDepth 100000 in
set_option maxHeartbeats 8000000 in
theorem framed_c (a : Option Addr) (cap len : Nat) (l : List Nat) (w : World) (hl : Bytes w a len l) (hc : len ≤ cap) :
    Calls Try.prog 30 #[.slice a len cap] w fun e w' => e = .returned (.int .i64 (frameN l : Nat)) ∧ Below w.heap.size w w' := by
  have HL := Aside0.mk hl
  have hlen := hl.2.1
  have HLL := Aside0.mk hl.1
  obtain ⟨F, hF⟩ : ∃ F, frameN l = F := ⟨_, rfl⟩
  have hfr := hF
  unfold frameN at hfr
  rw [hl.1] at hfr
  rw [hF]
  clear hl hF
  by_cases h4 : len < 4
  · rw [if_pos h4] at hfr
    subst hfr
    go_enter Try.func30, Try.ntmps30
    go_wp2
    go_ret
    exact ⟨rfl, Below.refl _ _⟩
  · rw [if_neg h4] at hfr
    have h4i : ¬ (len : Int) < 4 := by omega
    have h4p : 0 < len := by omega
    have h4q : (4 : Int) ≤ len := by omega
    obtain ⟨ad, rfl, k0⟩ := HL.out.at (i := 0) (by omega)
    rw [show ad.add 0 = ad by unfold Addr.add; simp] at k0
    obtain ⟨_, ha, k1⟩ := HL.out.at (i := 1) (by omega); cases ha
    rw [show ad.add 1 = ⟨ad.block, ad.off + 1, none⟩ from rfl] at k1
    obtain ⟨_, ha, k2⟩ := HL.out.at (i := 2) (by omega); cases ha
    rw [show ad.add 2 = ⟨ad.block, ad.off + 2, none⟩ from rfl] at k2
    obtain ⟨_, ha, k3⟩ := HL.out.at (i := 3) (by omega); cases ha
    rw [show ad.add 3 = ⟨ad.block, ad.off + 3, none⟩ from rfl] at k3
    have z0 := byte_at HL.out.2.2.1 0
    have z1 := byte_at HL.out.2.2.1 1
    have z2 := byte_at HL.out.2.2.1 2
    have z3 := byte_at HL.out.2.2.1 3
    obtain ⟨x0, e0⟩ : ∃ x, l.getD 0 0 = x := ⟨_, rfl⟩
    obtain ⟨x1, e1⟩ : ∃ x, l.getD 1 0 = x := ⟨_, rfl⟩
    obtain ⟨x2, e2⟩ : ∃ x, l.getD 2 0 = x := ⟨_, rfl⟩
    obtain ⟨x3, e3⟩ : ∃ x, l.getD 3 0 = x := ⟨_, rfl⟩
    rw [e0] at k0 z0 hfr
    rw [e1] at k1 z1 hfr
    rw [e2] at k2 z2 hfr
    rw [e3] at k3 z3 hfr
    clear e0 e1 e2 e3
    cases t0 : (x0 != 71) with
    | true =>
      have u0 : ((x0 : Int) != 71) = true := bne_cast x0 71 true t0
      rw [t0, Bool.true_or, if_pos rfl] at hfr
      clear t0
      subst hfr
      go_enter Try.func30, Try.ntmps30
      go_wp2
      go_ret
      exact ⟨rfl, Below.refl _ _⟩
    | false =>
      have u0 : ((x0 : Int) != 71) = false := bne_cast x0 71 false t0
      cases t1 : (x1 != 86) with
      | true =>
        have u1 : ((x1 : Int) != 86) = true := bne_cast x1 86 true t1
        rw [t0, t1, Bool.false_or, if_pos rfl] at hfr
        clear t0 t1
        subst hfr
        go_enter Try.func30, Try.ntmps30
        go_wp2
        go_ret
        exact ⟨rfl, Below.refl _ _⟩
      | false =>
        have u1 : ((x1 : Int) != 86) = false := bne_cast x1 86 false t1
        rw [t0, t1, Bool.false_or, if_neg (by decide)] at hfr
        clear t0 t1
        cases t2 : (x2 != 1) with
        | true =>
          have u2 : ((x2 : Int) != 1) = true := bne_cast x2 1 true t2
          rw [t2, Bool.true_or, Bool.true_or, if_pos rfl] at hfr
          clear t2
          subst hfr
          go_enter Try.func30, Try.ntmps30
          go_wp2
          go_ret
          exact ⟨rfl, Below.refl _ _⟩
        | false =>
          have u2 : ((x2 : Int) != 1) = false := bne_cast x2 1 false t2
          cases t3 : decide (x3 < 1) with
          | true =>
            have u3 : decide ((x3 : Int) < 1) = true := lt_cast x3 1 true t3
            rw [t2, t3, Bool.false_or, Bool.true_or, if_pos rfl] at hfr
            clear t2 t3
            subst hfr
            go_enter Try.func30, Try.ntmps30
            go_wp2
            go_ret
            exact ⟨rfl, Below.refl _ _⟩
          | false =>
            have u3 : decide ((x3 : Int) < 1) = false := lt_cast x3 1 false t3
            cases t4 : decide (x3 > 7) with
            | true =>
              have u4 : decide ((7 : Int) < x3) = true := lt_cast 7 x3 true t4
              rw [t2, t3, t4, Bool.false_or, Bool.false_or, if_pos rfl] at hfr
              clear t2 t3 t4
              subst hfr
              go_enter Try.func30, Try.ntmps30
              go_wp2
              go_ret
              exact ⟨rfl, Below.refl _ _⟩
            | false =>
              have u4 : decide ((7 : Int) < x3) = false := lt_cast 7 x3 false t4
              rw [t2, t3, t4, Bool.false_or, Bool.false_or, if_neg (by decide)] at hfr
              clear t2 t3 t4
              by_cases h77 : len < 77
              · rw [if_pos h77] at hfr
                have h77i : (len : Int) < 77 := by omega
                subst hfr
                go_enter Try.func30, Try.ntmps30
                go_wp2
                go_ret
                exact ⟨rfl, Below.refl _ _⟩
              · rw [if_neg h77] at hfr
                have h77i : ¬ (len : Int) < 77 := by omega
                obtain ⟨_, ha, k76⟩ := HL.out.at (i := 76) (by omega); cases ha
                rw [show ad.add 76 = ⟨ad.block, ad.off + 76, none⟩ from rfl] at k76
                have z76 := byte_at HL.out.2.2.1 76
                obtain ⟨m, em⟩ : ∃ x, l.getD 76 0 = x := ⟨_, rfl⟩
                rw [em] at k76 z76 hfr
                clear em
                by_cases h3 : m > 3
                · rw [if_pos h3] at hfr
                  have h3i : (m : Int) > 3 := by omega
                  subst hfr
                  go_enter Try.func30, Try.ntmps30
                  go_wp2
                  go_ret
                  exact ⟨rfl, Below.refl _ _⟩
                · rw [if_neg h3] at hfr
                  have h3i : ¬ (m : Int) > 3 := by omega
                  by_cases hlo : len < 79 + 9 * m
                  · rw [if_pos hlo] at hfr
                    subst hfr
                    go_enter Try.func30, Try.ntmps30
                    go_wp2
                    go_ret
                    exact ⟨rfl, Below.refl _ _⟩
                  · rw [if_neg hlo] at hfr
                    by_cases hhi : len > 79 + 9 * m
                    · rw [if_pos hhi] at hfr
                      subst hfr
                      go_enter Try.func30, Try.ntmps30
                      go_wp2
                      go_ret
                      exact ⟨rfl, Below.refl _ _⟩
                    · rw [if_neg hhi] at hfr
                      obtain ⟨k, hk⟩ : ∃ k, len = k + 2 := ⟨77 + 9 * m, by omega⟩
                      obtain ⟨_, ha, ky⟩ := HL.out.at (i := k) (by omega); cases ha
                      obtain ⟨_, ha, kz⟩ := HL.out.at (i := k + 1) (by omega); cases ha
                      have zy := byte_at HL.out.2.2.1 k
                      have zz := byte_at HL.out.2.2.1 (k + 1)
                      rw [show len - 2 = k by omega, show len - 1 = k + 1 by omega] at hfr
                      obtain ⟨y, ey⟩ : ∃ x, l.getD k 0 = x := ⟨_, rfl⟩
                      obtain ⟨z, ez⟩ : ∃ x, l.getD (k + 1) 0 = x := ⟨_, rfl⟩
                      obtain ⟨r, er⟩ : ∃ r, HandC.crc 0 (l.take k) = r := ⟨_, rfl⟩
                      rw [ey] at ky zy hfr
                      rw [ez] at kz zz hfr
                      rw [er] at hfr
                      have HT := Aside0.mk (Bytes_take HL.out (n := k) (by omega))
                      have HRR := Aside0.mk er
                      have hcut := fun W => cut1 (some ad) len cap k W (by omega) hc
                      have hm : (m : Int) ≤ 3 := by omega
                      have HK := Aside0.mk hk
                      have hlo2 : ¬ (len : Int) < 77 + 9 * m + 2 := by omega
                      have hhi2 : ¬ (len : Int) > 77 + 9 * m + 2 := by omega
                      clear hk ey ez er hcut hlo hhi h77 h3 h4
                      go_enter Try.func30, Try.ntmps30
                      go_upto_region 16 with fail
                      obtain ⟨q, hq⟩ : ∃ q : Int, 77 + 9 * (m : Int) + 2 = q := ⟨_, rfl⟩
                      rw [hq]
                      have hqk : q = (k : Int) + 2 := by have := HK.out; omega
                      have hw2 : IntKind.i64.wrap (q - 2) = (k : Int) := by rw [HandC.wrap_i64]; omega
                      have hw1 : IntKind.i64.wrap (q - 1) = ((k : Int) + 1) := by rw [HandC.wrap_i64]; omega
                      have hwy : IntKind.i64.wrap (y : Int) = y := by rw [HandC.wrap_i64]; omega
                      have hwz : IntKind.i64.wrap (z : Int) = z := by rw [HandC.wrap_i64]; omega
                      have hwm : IntKind.i64.wrap ((y : Int) * 256) = (y : Int) * 256 := by rw [HandC.wrap_i64]; omega
                      obtain ⟨v, hv⟩ : ∃ v, y * 256 + z = v := ⟨_, rfl⟩
                      have hor := or_low64 y z zy zz
                      rw [hv] at hor hfr
                      have b0 : (0 : Int) ≤ (k : Int) := by omega
                      have b1 : (k : Int) < (len : Int) := by have := HK.out; omega
                      have b2 : (0 : Int) ≤ ((k : Int) + 1) := by omega
                      have b3 : ((k : Int) + 1) < (len : Int) := by have := HK.out; omega
                      have b4 : ((k : Int)).toNat = k := by omega
                      have b5 : ((k : Int) + 1).toNat = k + 1 := by omega
                      have hcut := fun W => cut1 (some ad) len cap k W (by have := HK.out; omega) hc
                      rw [show ad.add (k + 1) = ⟨ad.block, ad.off + (k + 1), none⟩ from rfl] at kz
                      clear hv hq hqk
                      cases t5 : (r != v) with
                      | true =>
                        have u5 : ((r : Int) != (v : Int)) = true := bne_cast r v true t5
                        rw [if_pos (bne_iff_ne.mp t5)] at hfr
                        subst hfr
                        clear t5
                        go_region_held3 (fun w' => w'.cell? (ad.add k) = some (.int .u8 y) ∧ w'.cell? ⟨ad.block, ad.off + (k + 1), none⟩ = some (.int .u8 z)) (first | exact ⟨by assumption, by assumption⟩ | go_keep)
                          (first
                          | (go_at_call 21; go_loud (with_reducible refine (new_any w _ (by first | exact Below.refl _ _ | exact below_drew (Below.refl _ _))).mono ?_; rintro e w2 ⟨b, rfl, hh, hb, hB⟩; have HH := Aside0.mk hh; have HB2 := Aside0.mk hB; have HBB := Aside0.mk hb; have ky2 := (hB.cell (World.block_lt_of_cell? w _ ky)).trans ky; have kz2 := (hB.cell (World.block_lt_of_cell? w _ kz)).trans kz; clear hh hb hB))
                          | (go_at_call 22; go_loud (with_reducible refine (sum_any w _ _ (by first | exact HH.out | exact Hh_drew HH.out) HBB.out (by first | exact HB2.out | exact below_drew HB2.out) _ _ _ _ HT.out r HRR.out).mono ?_; rintro e w3 ⟨rfl, hB⟩; have HB3 := Aside0.mk hB; have ky3 := (hB.cell (World.block_lt_of_cell? w _ ky)).trans ky; have kz3 := (hB.cell (World.block_lt_of_cell? w _ kz)).trans kz; clear hB)))
                        clear hw2 hw1 hwy hwz hwm b4 b5
                        go_wp2
                        go_ret
                        exact ⟨rfl, HB3.out⟩
                      | false =>
                        have u5 : ((r : Int) != (v : Int)) = false := bne_cast r v false t5
                        rw [if_neg (by have := bne_eq_false_iff_eq.mp t5; omega)] at hfr
                        subst hfr
                        clear t5
                        go_region_held3 (fun w' => w'.cell? (ad.add k) = some (.int .u8 y) ∧ w'.cell? ⟨ad.block, ad.off + (k + 1), none⟩ = some (.int .u8 z)) (first | exact ⟨by assumption, by assumption⟩ | go_keep)
                          (first
                          | (go_at_call 21; go_loud (with_reducible refine (new_any w _ (by first | exact Below.refl _ _ | exact below_drew (Below.refl _ _))).mono ?_; rintro e w2 ⟨b, rfl, hh, hb, hB⟩; have HH := Aside0.mk hh; have HB2 := Aside0.mk hB; have HBB := Aside0.mk hb; have ky2 := (hB.cell (World.block_lt_of_cell? w _ ky)).trans ky; have kz2 := (hB.cell (World.block_lt_of_cell? w _ kz)).trans kz; clear hh hb hB))
                          | (go_at_call 22; go_loud (with_reducible refine (sum_any w _ _ (by first | exact HH.out | exact Hh_drew HH.out) HBB.out (by first | exact HB2.out | exact below_drew HB2.out) _ _ _ _ HT.out r HRR.out).mono ?_; rintro e w3 ⟨rfl, hB⟩; have HB3 := Aside0.mk hB; have ky3 := (hB.cell (World.block_lt_of_cell? w _ ky)).trans ky; have kz3 := (hB.cell (World.block_lt_of_cell? w _ kz)).trans kz; clear hB)))
                        clear hw2 hw1 hwy hwz hwm b4 b5
                        go_wp2
                        go_ret
                        exact ⟨rfl, HB3.out⟩
end Go.Proofs.Ytldiipomcenbkaa.Qw
