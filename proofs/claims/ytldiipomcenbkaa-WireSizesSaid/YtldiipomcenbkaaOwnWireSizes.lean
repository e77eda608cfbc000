/- WireSizes by hand: a packet has 79 bytes, and nine more for each entry. -/
import Derived.Test.YtldiipomcenbkaaHandQ
namespace Go.Proofs.Ytldiipomcenbkaa.Qw
open Go.RowKit Go.Proofs.YtldiipomcenbkaaW.PrintWords Go.Proofs.YtldiipomcenbkaaW.PrintLast Go.Proofs.YtldiipomcenbkaaW.PrintMore
open HandS (Bytes byte_at add_block)
set_option linter.unusedVariables false
set_option linter.unusedSimpArgs false
set_option maxRecDepth 100000 in
set_option maxHeartbeats 4000000 in
theorem sizes_yes (a0 a1 a2 a3 a4 a5 a6 a7 a8 a9 : Int) (A : Option Addr) (c : Nat) (l : List S48) (k : Nat) (hk : l.length = k) (w : World) (hr : Kd.C k48 w A k l) (hc : k ≤ c) (h5 : 0 ≤ a5 ∧ a5 < 18446744073709551616) (h9 : 0 ≤ a9 ∧ a9 < 18446744073709551616) (hrt : rightB a0 a1 a2 a3 a4 a5 a6 a7 a8 a9 l = true)
    (n : Nat) (hn : (79 + 9 * k = n)) (hk3 : k = 0 ∨ k = 1 ∨ k = 2 ∨ k = 3) :
    Calls Try.prog 7 #[.agg #[.int .i64 a0, .int .i64 a1, .int .i64 a2, .int .i64 a3, .int .i64 a4, .int .u64 a5, .int .i64 a6, .int .i64 a7, .int .i64 a8, .int .u64 a9, .slice A k c]] w fun e w' => e = .returned (.bool true) ∧ Below w.heap.size w w' := by
  have R := right_of hrt
  have q3 := encI_3 R
  have q76 : ((encI a0 a1 a2 a3 a4 a5 a6 a7 a8 a9 l).getD 76 0 : Int) = k := by rw [← hk]; unfold encI; rw [enc_eq]; rfl
  obtain ⟨bs, hbs⟩ : ∃ bs, encI a0 a1 a2 a3 a4 a5 a6 a7 a8 a9 l = bs := ⟨_, rfl⟩
  have ENC := Aside0.mk (fun W (h : Kd.C k48 W A k l) => encode_r a0 a1 a2 a3 a4 a5 a6 a7 a8 a9 A c l W (by rw [hk]; exact h) (by omega) h5 h9 hrt bs hbs n (by omega))
  rw [hk] at ENC
  rw [hbs] at q3 q76
  have Q3 := Aside0.mk q3; have Q76 := Aside0.mk q76
  have HR := Aside0.mk hr
  have k1 := R.k1
  have k7 := R.k7
  have hwa : IntKind.i64.wrap a0 = a0 := by rw [HandC.wrap_i64]; omega
  clear q3 q76 hbs hr R hrt hk h5 h9
  rcases hk3 with rfl | rfl | rfl | rfl
  all_goals
    subst hn
    go_enter Try.func7, Try.ntmps7
    go_wp2_with (first
      | (go_at_call 10; go_loud (refine (anchor_c _).mono ?_; rintro e w1 ⟨rfl, hb⟩; have HB1 := Aside0.mk (below_step (below_alloc (Below.refl _ _) _) hb); have HG := Aside0.mk (blk_below (blk_new w _) hb); clear hb; obtain ⟨f0, f1, f2, f3, f4, f5, f6, f7, f8, f9, f10⟩ := cells11 HG.out))
      | (go_at_call 12; go_loud (refine (ENC.out _ (Kd.C_below HR.out HB1.out)).mono ?_; rintro e w2 ⟨g, c1, rfl, ho, hby, hcl, hge, hb⟩; have HBY := Aside0.mk hby; have HB2 := Aside0.mk (HB1.out.trans (hb.mono HB1.out.size)); have HG2 := Aside0.mk (blk_below HG.out hb); clear ho hby hb f0 f1 f2 f3 f4 f5 f6 f7 f8 f9 f10; obtain ⟨d0, d1, d2, d3, d4, d5, d6, d7, d8, d9, d10⟩ := cells11 HG2.out; obtain ⟨_, ha, k3⟩ := HBY.out.at (i := 3) (by decide); cases ha; obtain ⟨_, ha, k76⟩ := HBY.out.at (i := 76) (by decide); cases ha; rw [Q3.out, add_zero_at] at k3; rw [Q76.out, add_zero_at] at k76)))
    go_quiet (fail)
    go_wp2
    go_ret
    exact ⟨by simp, pw_below_drewN HB2.out _⟩
set_option maxRecDepth 100000 in
theorem sizes_no (a0 a1 a2 a3 a4 a5 a6 a7 a8 a9 : Int) (A : Option Addr) (c : Nat) (l : List S48) (k : Nat) (hk : l.length = k) (w : World) (hr : Kd.C k48 w A k l) (hc : k ≤ c) (hk20 : k ≤ 20) (hrt : rightB a0 a1 a2 a3 a4 a5 a6 a7 a8 a9 l = false) :
    Calls Try.prog 7 #[.agg #[.int .i64 a0, .int .i64 a1, .int .i64 a2, .int .i64 a3, .int .i64 a4, .int .u64 a5, .int .i64 a6, .int .i64 a7, .int .i64 a8, .int .u64 a9, .slice A k c]] w fun e w' => e = .returned (.bool true) ∧ Below w.heap.size w w' := by
  have ENC := Aside0.mk (fun W (h : Kd.C k48 W A k l) => encode_no a0 a1 a2 a3 a4 a5 a6 a7 a8 a9 A c l W (by rw [hk]; exact h) (by omega) hrt)
  rw [hk] at ENC
  have HR := Aside0.mk hr
  clear hr hrt hk
  go_enter Try.func7, Try.ntmps7
  go_wp2_with (first
    | (go_at_call 10; go_loud (refine (anchor_c _).mono ?_; rintro e w1 ⟨rfl, hb⟩; have HB1 := Aside0.mk (below_step (below_alloc (Below.refl _ _) _) hb); have HG := Aside0.mk (blk_below (blk_new w _) hb); clear hb; obtain ⟨f0, f1, f2, f3, f4, f5, f6, f7, f8, f9, f10⟩ := cells11 HG.out))
    | (go_at_call 12; go_loud (refine (ENC.out _ (Kd.C_below HR.out HB1.out)).mono ?_; rintro e w2 ⟨rfl, hb⟩; have HB2 := Aside0.mk (HB1.out.trans (hb.mono HB1.out.size)); clear hb)))
  go_ret
  exact ⟨rfl, HB2.out⟩
theorem sizes_out (a0 a1 a2 a3 a4 a5 a6 a7 a8 a9 : Int) (A : Option Addr) (c : Nat) (k : Nat) (w : World) (hk : k ≤ 9223372036854775807) (hk20 : 20 < k) :
    Calls Try.prog 7 #[.agg #[.int .i64 a0, .int .i64 a1, .int .i64 a2, .int .i64 a3, .int .i64 a4, .int .u64 a5, .int .i64 a6, .int .i64 a7, .int .i64 a8, .int .u64 a9, .slice A k c]] w fun e w' => e = .returned (.bool true) ∧ Below w.heap.size w w' := by
  go_enter Try.func7, Try.ntmps7
  go_wp2_with (first
    | (go_at_call 10; go_loud (refine (anchor_c _).mono ?_; rintro e w1 ⟨rfl, hb⟩; have HB1 := Aside0.mk (below_step (below_alloc (Below.refl _ _) _) hb); have HG := Aside0.mk (blk_below (blk_new w _) hb); clear hb; obtain ⟨f0, f1, f2, f3, f4, f5, f6, f7, f8, f9, f10⟩ := cells11 HG.out)))
  go_ret
  exact ⟨rfl, HB1.out⟩
theorem sizes_calls (a0 a1 a2 a3 a4 a5 a6 a7 a8 a9 : Int) (A : Option Addr) (c : Nat) (l : List S48) (w : World) (hr : Kd.C k48 w A l.length l) (hc : l.length ≤ c) (h5 : 0 ≤ a5 ∧ a5 < 18446744073709551616) (h9 : 0 ≤ a9 ∧ a9 < 18446744073709551616) :
    Calls Try.prog 7 #[.agg #[.int .i64 a0, .int .i64 a1, .int .i64 a2, .int .i64 a3, .int .i64 a4, .int .u64 a5, .int .i64 a6, .int .i64 a7, .int .i64 a8, .int .u64 a9, .slice A l.length c]] w fun e w' => e = .returned (.bool true) ∧ Below w.heap.size w w' := by
  by_cases h : l.length ≤ 20
  · cases hrt : rightB a0 a1 a2 a3 a4 a5 a6 a7 a8 a9 l with
    | true => exact sizes_yes a0 a1 a2 a3 a4 a5 a6 a7 a8 a9 A c l l.length rfl w hr hc h5 h9 hrt _ rfl (by have := (right_of hrt).len; omega)
    | false => exact sizes_no a0 a1 a2 a3 a4 a5 a6 a7 a8 a9 A c l l.length rfl w hr hc h hrt
  · exact sizes_out a0 a1 a2 a3 a4 a5 a6 a7 a8 a9 A c l.length w hr.2.1 (by omega)
end Go.Proofs.Ytldiipomcenbkaa.Qw
