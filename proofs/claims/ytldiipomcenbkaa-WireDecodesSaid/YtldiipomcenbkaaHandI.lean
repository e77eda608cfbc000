/- The document's number and frame, by hand. -/
import Derived.Test.YtldiipomcenbkaaHandY
import Derived.Test.YtldiipomcenbkaaHandN
import Derived.BigRegion
namespace Go.Proofs.Ytldiipomcenbkaa.Qw
open Go.RowKit Go.Proofs.YtldiipomcenbkaaW.PrintWords Go.Proofs.YtldiipomcenbkaaW.PrintLast Go.Proofs.YtldiipomcenbkaaW.PrintMore
open HandS (Bytes byte_at add_block)
set_option linter.unusedVariables false
set_option linter.unusedSimpArgs false
theorem rsum_any (W : World) (a : Option Addr) (cap len : Nat) (l : List Nat) (hl : Bytes W a len l) (r : Nat) (hr : HandC.crc 0 l = r) :
    Calls Try.prog 33 #[.slice a len cap] W fun e w' => e = .returned (.int .i64 r) ∧ w' = W :=
  (HandS.ref_sum_c W a cap len l hl).mono fun e w' h => by
    subst hr
    exact h
set_option maxRecDepth 100000 in
set_option maxHeartbeats 8000000 in
theorem rframe_c (a : Option Addr) (cap len : Nat) (l : List Nat) (w : World) (hl : Bytes w a len l) (hc : len ≤ cap) :
    Calls Try.prog 34 #[.slice a len cap] w fun e w' => e = .returned (.int .i64 (frameN l : Nat)) ∧ Below w.heap.size w w' := by
  have HL := Aside0.mk hl
  have hlen := hl.2.1
  have HLL := Aside0.mk hl.1
  obtain ⟨F, hF⟩ : ∃ F, frameN l = F := ⟨_, rfl⟩
  have hfr := hF
  unfold frameN at hfr
  rw [hl.1] at hfr
  rw [hF]
  clear hl hF
  by_cases h4 : len < 4
  · rw [if_pos h4] at hfr
    subst hfr
    go_enter Try.func34, Try.ntmps34
    go_wp2
    go_ret
    exact ⟨rfl, Below.refl _ _⟩
  · rw [if_neg h4] at hfr
    have h4i : ¬ (len : Int) < 4 := by omega
    have h4p : 0 < len := by omega
    have h4q : (4 : Int) ≤ len := by omega
    obtain ⟨ad, rfl, k0⟩ := HL.out.at (i := 0) (by omega)
    rw [show ad.add 0 = ad by unfold Addr.add; simp] at k0
    obtain ⟨_, ha, k1⟩ := HL.out.at (i := 1) (by omega); cases ha
    rw [show ad.add 1 = ⟨ad.block, ad.off + 1, none⟩ from rfl] at k1
    obtain ⟨_, ha, k2⟩ := HL.out.at (i := 2) (by omega); cases ha
    rw [show ad.add 2 = ⟨ad.block, ad.off + 2, none⟩ from rfl] at k2
    obtain ⟨_, ha, k3⟩ := HL.out.at (i := 3) (by omega); cases ha
    rw [show ad.add 3 = ⟨ad.block, ad.off + 3, none⟩ from rfl] at k3
    have z0 := byte_at HL.out.2.2.1 0
    have z1 := byte_at HL.out.2.2.1 1
    have z2 := byte_at HL.out.2.2.1 2
    have z3 := byte_at HL.out.2.2.1 3
    obtain ⟨x0, e0⟩ : ∃ x, l.getD 0 0 = x := ⟨_, rfl⟩
    obtain ⟨x1, e1⟩ : ∃ x, l.getD 1 0 = x := ⟨_, rfl⟩
    obtain ⟨x2, e2⟩ : ∃ x, l.getD 2 0 = x := ⟨_, rfl⟩
    obtain ⟨x3, e3⟩ : ∃ x, l.getD 3 0 = x := ⟨_, rfl⟩
    rw [e0] at k0 z0 hfr
    rw [e1] at k1 z1 hfr
    rw [e2] at k2 z2 hfr
    rw [e3] at k3 z3 hfr
    clear e0 e1 e2 e3
    cases t0 : (x0 != 71) with
    | true =>
      have u0 : ((x0 : Int) != 71) = true := bne_cast x0 71 true t0
      rw [t0, Bool.true_or, if_pos rfl] at hfr
      clear t0
      subst hfr
      go_enter Try.func34, Try.ntmps34
      go_wp2
      go_ret
      exact ⟨rfl, Below.refl _ _⟩
    | false =>
      have u0 : ((x0 : Int) != 71) = false := bne_cast x0 71 false t0
      cases t1 : (x1 != 86) with
      | true =>
        have u1 : ((x1 : Int) != 86) = true := bne_cast x1 86 true t1
        rw [t0, t1, Bool.false_or, if_pos rfl] at hfr
        clear t0 t1
        subst hfr
        go_enter Try.func34, Try.ntmps34
        go_wp2
        go_ret
        exact ⟨rfl, Below.refl _ _⟩
      | false =>
        have u1 : ((x1 : Int) != 86) = false := bne_cast x1 86 false t1
        rw [t0, t1, Bool.false_or, if_neg (by decide)] at hfr
        clear t0 t1
        cases t2 : (x2 != 1) with
        | true =>
          have u2 : ((x2 : Int) != 1) = true := bne_cast x2 1 true t2
          rw [t2, Bool.true_or, Bool.true_or, if_pos rfl] at hfr
          clear t2
          subst hfr
          go_enter Try.func34, Try.ntmps34
          go_wp2
          go_ret
          exact ⟨rfl, Below.refl _ _⟩
        | false =>
          have u2 : ((x2 : Int) != 1) = false := bne_cast x2 1 false t2
          cases t3 : decide (x3 < 1) with
          | true =>
            have u3 : decide ((x3 : Int) < 1) = true := lt_cast x3 1 true t3
            rw [t2, t3, Bool.false_or, Bool.true_or, if_pos rfl] at hfr
            clear t2 t3
            subst hfr
            go_enter Try.func34, Try.ntmps34
            go_wp2
            go_ret
            exact ⟨rfl, Below.refl _ _⟩
          | false =>
            have u3 : decide ((x3 : Int) < 1) = false := lt_cast x3 1 false t3
            cases t4 : decide (x3 > 7) with
            | true =>
              have u4 : decide ((7 : Int) < x3) = true := lt_cast 7 x3 true t4
              rw [t2, t3, t4, Bool.false_or, Bool.false_or, if_pos rfl] at hfr
              clear t2 t3 t4
              subst hfr
              go_enter Try.func34, Try.ntmps34
              go_wp2
              go_ret
              exact ⟨rfl, Below.refl _ _⟩
            | false =>
              have u4 : decide ((7 : Int) < x3) = false := lt_cast 7 x3 false t4
              rw [t2, t3, t4, Bool.false_or, Bool.false_or, if_neg (by decide)] at hfr
              clear t2 t3 t4
              by_cases h77 : len < 77
              · rw [if_pos h77] at hfr
                have h77i : (len : Int) < 77 := by omega
                subst hfr
                go_enter Try.func34, Try.ntmps34
                go_wp2
                go_ret
                exact ⟨rfl, Below.refl _ _⟩
              · rw [if_neg h77] at hfr
                have h77i : ¬ (len : Int) < 77 := by omega
                obtain ⟨_, ha, k76⟩ := HL.out.at (i := 76) (by omega); cases ha
                rw [show ad.add 76 = ⟨ad.block, ad.off + 76, none⟩ from rfl] at k76
                have z76 := byte_at HL.out.2.2.1 76
                obtain ⟨m, em⟩ : ∃ x, l.getD 76 0 = x := ⟨_, rfl⟩
                rw [em] at k76 z76 hfr
                clear em
                by_cases h3 : m > 3
                · rw [if_pos h3] at hfr
                  have h3i : (m : Int) > 3 := by omega
                  subst hfr
                  go_enter Try.func34, Try.ntmps34
                  go_wp2
                  go_ret
                  exact ⟨rfl, Below.refl _ _⟩
                · rw [if_neg h3] at hfr
                  have h3i : ¬ (m : Int) > 3 := by omega
                  by_cases hlo : len < 79 + 9 * m
                  · rw [if_pos hlo] at hfr
                    subst hfr
                    go_enter Try.func34, Try.ntmps34
                    go_wp2
                    go_ret
                    exact ⟨rfl, Below.refl _ _⟩
                  · rw [if_neg hlo] at hfr
                    by_cases hhi : len > 79 + 9 * m
                    · rw [if_pos hhi] at hfr
                      subst hfr
                      go_enter Try.func34, Try.ntmps34
                      go_wp2
                      go_ret
                      exact ⟨rfl, Below.refl _ _⟩
                    · rw [if_neg hhi] at hfr
                      obtain ⟨k, hk⟩ : ∃ k, len = k + 2 := ⟨77 + 9 * m, by omega⟩
                      obtain ⟨_, ha, ky⟩ := HL.out.at (i := k) (by omega); cases ha
                      obtain ⟨_, ha, kz⟩ := HL.out.at (i := k + 1) (by omega); cases ha
                      have zy := byte_at HL.out.2.2.1 k
                      have zz := byte_at HL.out.2.2.1 (k + 1)
                      rw [show len - 2 = k by omega, show len - 1 = k + 1 by omega] at hfr
                      obtain ⟨y, ey⟩ : ∃ x, l.getD k 0 = x := ⟨_, rfl⟩
                      obtain ⟨z, ez⟩ : ∃ x, l.getD (k + 1) 0 = x := ⟨_, rfl⟩
                      obtain ⟨r, er⟩ : ∃ r, HandC.crc 0 (l.take k) = r := ⟨_, rfl⟩
                      rw [ey] at ky zy hfr
                      rw [ez] at kz zz hfr
                      rw [er] at hfr
                      have HT := Aside0.mk (Bytes_take HL.out (n := k) (by omega))
                      have HRR := Aside0.mk er
                      have hm : (m : Int) ≤ 3 := by omega
                      have HK := Aside0.mk hk
                      have hlo2 : ¬ (len : Int) < 77 + 9 * m + 2 := by omega
                      have hhi2 : ¬ (len : Int) > 77 + 9 * m + 2 := by omega
                      clear hk ey ez er hlo hhi h77 h3 h4
                      go_enter Try.func34, Try.ntmps34
                      go_upto_region 16 with fail
                      obtain ⟨q, hq⟩ : ∃ q : Int, 77 + 9 * (m : Int) = q := ⟨_, rfl⟩
                      try rw [hq]
                      have hqk : q = (k : Int) := by have := HK.out; omega
                      subst hqk
                      have hw1 : IntKind.i64.wrap ((k : Int) + 1) = ((k : Int) + 1) := by rw [HandC.wrap_i64]; omega
                      have hwy : IntKind.i64.wrap (y : Int) = y := by rw [HandC.wrap_i64]; omega
                      have hwz : IntKind.i64.wrap (z : Int) = z := by rw [HandC.wrap_i64]; omega
                      have hwm : IntKind.i64.wrap ((y : Int) * 256) = (y : Int) * 256 := by rw [HandC.wrap_i64]; omega
                      obtain ⟨v, hv⟩ : ∃ v, y * 256 + z = v := ⟨_, rfl⟩
                      rw [hv] at hfr
                      have hwv : IntKind.i64.wrap ((y : Int) * 256 + z) = (v : Int) := by rw [HandC.wrap_i64]; omega
                      have b0 : (0 : Int) ≤ (k : Int) := by omega
                      have b1 : (k : Int) < (len : Int) := by have := HK.out; omega
                      have b2 : (0 : Int) ≤ ((k : Int) + 1) := by omega
                      have b3 : ((k : Int) + 1) < (len : Int) := by have := HK.out; omega
                      have b4 : ((k : Int)).toNat = k := by omega
                      have b5 : ((k : Int) + 1).toNat = k + 1 := by omega
                      have hcut := fun W => cut1 (some ad) len cap k W (by have := HK.out; omega) hc
                      rw [show ad.add (k + 1) = ⟨ad.block, ad.off + (k + 1), none⟩ from rfl] at kz
                      clear hv hq
                      cases t5 : (r != v) with
                      | true =>
                        have u5 : ((r : Int) != (v : Int)) = true := bne_cast r v true t5
                        rw [if_pos (bne_iff_ne.mp t5)] at hfr
                        subst hfr
                        clear t5
                        go_region_held3 (fun w' => w'.cell? (ad.add k) = some (.int .u8 y) ∧ w'.cell? ⟨ad.block, ad.off + (k + 1), none⟩ = some (.int .u8 z)) (first | exact ⟨by assumption, by assumption⟩ | go_keep)
                          (first | (go_at_call 33; go_loud ((with_reducible refine (rsum_any _ _ _ _ _ (HT.out.below (by first | exact Below.refl _ _ | exact below_drew (Below.refl _ _))) r HRR.out).mono ?_); rintro e w3 ⟨rfl, rfl⟩; have hB : Below w.heap.size w _ := (by first | exact Below.refl w.heap.size w | exact below_drew (Below.refl w.heap.size w)); have HB3 := Aside0.mk hB; have ky3 := (hB.cell (World.block_lt_of_cell? w _ ky)).trans ky; have kz3 := (hB.cell (World.block_lt_of_cell? w _ kz)).trans kz; clear hB)))
                        clear hw1 hwy hwz hwm hwv b4 b5
                        go_wp2
                        go_ret
                        exact ⟨rfl, by first | exact below_drew (Below.refl _ _) | exact Below.refl _ _⟩
                      | false =>
                        have u5 : ((r : Int) != (v : Int)) = false := bne_cast r v false t5
                        rw [if_neg (by have := bne_eq_false_iff_eq.mp t5; omega)] at hfr
                        subst hfr
                        clear t5
                        go_region_held3 (fun w' => w'.cell? (ad.add k) = some (.int .u8 y) ∧ w'.cell? ⟨ad.block, ad.off + (k + 1), none⟩ = some (.int .u8 z)) (first | exact ⟨by assumption, by assumption⟩ | go_keep)
                          (first | (go_at_call 33; go_loud ((with_reducible refine (rsum_any _ _ _ _ _ (HT.out.below (by first | exact Below.refl _ _ | exact below_drew (Below.refl _ _))) r HRR.out).mono ?_); rintro e w3 ⟨rfl, rfl⟩; have hB : Below w.heap.size w _ := (by first | exact Below.refl w.heap.size w | exact below_drew (Below.refl w.heap.size w)); have HB3 := Aside0.mk hB; have ky3 := (hB.cell (World.block_lt_of_cell? w _ ky)).trans ky; have kz3 := (hB.cell (World.block_lt_of_cell? w _ kz)).trans kz; clear hB)))
                        clear hw1 hwy hwz hwm hwv b4 b5
                        go_wp2
                        go_ret
                        exact ⟨rfl, by first | exact below_drew (Below.refl _ _) | exact Below.refl _ _⟩
end Go.Proofs.Ytldiipomcenbkaa.Qw
