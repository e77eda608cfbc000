/- WireUnlike by hand: two right packets have the same bytes just if they are the same. -/
import Derived.Test.YtldiipomcenbkaaHandZ
import Derived.RegionCalls
namespace Go.Proofs.Ytldiipomcenbkaa.Qw
open Go.RowKit Go.Proofs.YtldiipomcenbkaaW.PrintWords Go.Proofs.YtldiipomcenbkaaW.PrintLast Go.Proofs.YtldiipomcenbkaaW.PrintMore
open HandS (Bytes byte_at add_block)
set_option linter.unusedVariables false
set_option linter.unusedSimpArgs false
def eOf (r : Bool) : Int := match r with | true => 0 | false => 10
theorem encode_e (a0 a1 a2 a3 a4 a5 a6 a7 a8 a9 : Int) (A : Option Addr) (c : Nat) (l : List S48) (w : World) (n : Nat) (hn : l.length = n) (hr : Kd.C k48 w A n l) (hc : n ≤ c) (h5 : 0 ≤ a5 ∧ a5 < 18446744073709551616) (h9 : 0 ≤ a9 ∧ a9 < 18446744073709551616) (r : Bool) (hrt : rightB a0 a1 a2 a3 a4 a5 a6 a7 a8 a9 l = r) :
    Calls Try.prog 12 #[.agg #[.int .i64 a0, .int .i64 a1, .int .i64 a2, .int .i64 a3, .int .i64 a4, .int .u64 a5, .int .i64 a6, .int .i64 a7, .int .i64 a8, .int .u64 a9, .slice A n c]] w fun e w' => ∃ v, e = .returned (.tuple #[v, .int .i64 (eOf r)]) ∧ Below w.heap.size w w' := by
  subst hn
  refine (encode_c a0 a1 a2 a3 a4 a5 a6 a7 a8 a9 A c l w hr hc h5 h9 r hrt).mono ?_
  intro e w' h
  cases r with
  | true =>
    obtain ⟨v, h1, _, h2⟩ := h
    exact ⟨v, h1, h2⟩
  | false => exact ⟨_, h.1, h.2⟩
set_option maxRecDepth 100000 in
set_option maxHeartbeats 4000000 in
theorem unlike_yes (a0 a1 a2 a3 a4 a5 a6 a7 a8 a9 : Int) (A : Option Addr) (c : Nat) (l : List S48) (b0 b1 b2 b3 b4 b5 b6 b7 b8 b9 : Int) (E : Option Addr) (d : Nat) (m : List S48) (n k : Nat) (hn : l.length = n) (hk : m.length = k) (w : World) (hr : Kd.C k48 w A n l) (hc : n ≤ c) (hs : Kd.C k48 w E k m) (hd : k ≤ d) (h5 : 0 ≤ a5 ∧ a5 < 18446744073709551616) (h9 : 0 ≤ a9 ∧ a9 < 18446744073709551616) (k5 : 0 ≤ b5 ∧ b5 < 18446744073709551616) (k9 : 0 ≤ b9 ∧ b9 < 18446744073709551616)
    (hn20 : n ≤ 20) (hk20 : k ≤ 20) (ha : rightB a0 a1 a2 a3 a4 a5 a6 a7 a8 a9 l = true) (hb : rightB b0 b1 b2 b3 b4 b5 b6 b7 b8 b9 m = true) (r : Bool) (hq : r = true ↔ PkEq a0 a1 a2 a3 a4 a5 a6 a7 a8 a9 l b0 b1 b2 b3 b4 b5 b6 b7 b8 b9 m) :
    Calls Try.prog 6 #[.agg #[.int .i64 a0, .int .i64 a1, .int .i64 a2, .int .i64 a3, .int .i64 a4, .int .u64 a5, .int .i64 a6, .int .i64 a7, .int .i64 a8, .int .u64 a9, .slice A n c], .agg #[.int .i64 b0, .int .i64 b1, .int .i64 b2, .int .i64 b3, .int .i64 b4, .int .u64 b5, .int .i64 b6, .int .i64 b7, .int .i64 b8, .int .u64 b9, .slice E k d]] w fun e w' => e = .returned (.bool true) ∧ Below w.heap.size w w' := by
  have hq2 : r = true ↔ encI a0 a1 a2 a3 a4 a5 a6 a7 a8 a9 l = encI b0 b1 b2 b3 b4 b5 b6 b7 b8 b9 m := hq.trans (encI_inj ha hb h5 h9 k5 k9).symm
  obtain ⟨bs, hbs⟩ : ∃ bs, encI a0 a1 a2 a3 a4 a5 a6 a7 a8 a9 l = bs := ⟨_, rfl⟩
  obtain ⟨bt, hbt⟩ : ∃ bt, encI b0 b1 b2 b3 b4 b5 b6 b7 b8 b9 m = bt := ⟨_, rfl⟩
  have ENC := Aside0.mk (fun W (h : Kd.C k48 W A n l) => encode_r a0 a1 a2 a3 a4 a5 a6 a7 a8 a9 A c l W (by rw [hn]; exact h) (by omega) h5 h9 ha bs hbs (79 + 9 * n) (by omega))
  have END := Aside0.mk (fun W (h : Kd.C k48 W E k m) => encode_r b0 b1 b2 b3 b4 b5 b6 b7 b8 b9 E d m W (by rw [hk]; exact h) (by omega) k5 k9 hb bt hbt (79 + 9 * k) (by omega))
  rw [hbs, hbt] at hq2
  rw [hn] at ENC
  rw [hk] at END
  have SAME := Aside0.mk (fun W X Y x y n1 n2 (h1 : Bytes W X n1 bs) (h1c : n1 ≤ x) (h2 : Bytes W Y n2 bt) (h2c : n2 ≤ y) => same_c X Y x y n1 n2 bs bt W h1 h1c h2 h2c r hq2)
  have SPK := Aside0.mk (fun W (h1 : Kd.C k48 W A n l) (h2 : Kd.C k48 W E k m) => samePk_c a0 a1 a2 a3 a4 a5 a6 a7 a8 a9 A c l b0 b1 b2 b3 b4 b5 b6 b7 b8 b9 E d m n k hn hk W h1 hc h2 hd r hq)
  have HR := Aside0.mk hr
  have HS := Aside0.mk hs
  clear hbs hbt hr hs hn hk hq hq2 ha hb h5 h9 k5 k9
  obtain ⟨nn, hnn⟩ : ∃ nn, 79 + 9 * n = nn := ⟨_, rfl⟩
  obtain ⟨kk, hkk⟩ : ∃ kk, 79 + 9 * k = kk := ⟨_, rfl⟩
  rw [hnn] at ENC
  rw [hkk] at END
  clear hnn hkk
  go_enter Try.func6, Try.ntmps6
  go_wp2_with (first
    | (go_at_call 10; go_loud (refine (anchor_c _).mono ?_; rintro e w1 ⟨rfl, hb⟩; have HB1 := Aside0.mk (below_step (below_alloc (below_alloc (Below.refl _ _) _) _) hb); have HG := Aside0.mk (blk_below (heap_alloc2_old w _ _) hb); have HK := Aside0.mk (blk_below (heap_alloc2_new w _ _) hb); clear hb; obtain ⟨f0, f1, f2, f3, f4, f5, f6, f7, f8, f9, f10⟩ := cells11 HG.out; obtain ⟨g0, g1, g2, g3, g4, g5, g6, g7, g8, g9, g10⟩ := cells11 HK.out; have gl := World.block_lt_of_cell? w1 _ g0; dsimp only at gl))
    | (go_at_call 12; have tok1 := f0; go_loud ((with_reducible refine (ENC.out _ (Kd.C_below HR.out HB1.out)).mono ?_); rintro e w2 ⟨g, c1, rfl, ho, hby, hcl, hge, hb⟩; have HBY := Aside0.mk hby; have HB2 := Aside0.mk (HB1.out.trans (hb.mono HB1.out.size)); have HG2 := Aside0.mk (blk_below HG.out hb); have HK2 := Aside0.mk (blk_below HK.out hb); clear ho hby hb gl tok1 f0 f1 f2 f3 f4 f5 f6 f7 f8 f9 f10 g0 g1 g2 g3 g4 g5 g6 g7 g8 g9 g10; obtain ⟨g0, g1, g2, g3, g4, g5, g6, g7, g8, g9, g10⟩ := cells11 HK2.out))
    | (go_at_call 12; go_loud ((with_reducible refine (END.out _ (Kd.C_below HS.out HB2.out)).mono ?_); rintro e w3 ⟨g', c2, rfl, ho, hby, hcl2, hge2, hb⟩; have HBZ := Aside0.mk hby; have HBY2 := Aside0.mk (HBY.out.below hb); have HB3 := Aside0.mk (HB2.out.trans (hb.mono HB2.out.size)); have HG3 := Aside0.mk (blk_below HG2.out hb); have HK3 := Aside0.mk (blk_below HK2.out hb); clear ho hby hb g0 g1 g2 g3 g4 g5 g6 g7 g8 g9 g10; obtain ⟨f0, f1, f2, f3, f4, f5, f6, f7, f8, f9, f10⟩ := cells11 HG3.out; obtain ⟨g0, g1, g2, g3, g4, g5, g6, g7, g8, g9, g10⟩ := cells11 HK3.out)))
  go_region_with (first
    | (go_at_call 16; (with_reducible refine (SAME.out _ _ _ _ _ _ _ (by first | exact HBY2.out | exact HBY2.out.below HB4.out | exact HBY2.out.below (pw_below_drewN (Below.refl _ _) _) | exact HBY2.out.below (below_drew (Below.refl _ _))) hcl (by first | exact HBZ.out | exact HBZ.out.below HB4.out | exact HBZ.out.below (below_drew (Below.refl _ _))) hcl2).mono ?_); rintro e w5 ⟨rfl, ⟨nd, rfl⟩⟩)
    | (go_at_call 18; (with_reducible refine (SPK.out _ (Kd.C_below HR.out (by first | exact HB3.out | exact pw_below_drewN (HB3.out) _ | exact below_drew HB3.out | exact below_drew (pw_below_drewN HB3.out _) | exact pw_below_drewN (below_drew HB3.out) _)) (Kd.C_below HS.out (by first | exact HB3.out | exact pw_below_drewN (HB3.out) _ | exact below_drew HB3.out | exact below_drew (pw_below_drewN HB3.out _) | exact pw_below_drewN (below_drew HB3.out) _))).mono ?_); rintro e w4 ⟨rfl, hb⟩; have HB4 := Aside0.mk hb; have HB5 : Aside0 (Below w.heap.size w w4) := Aside0.mk (below_step (by first | exact HB3.out | exact pw_below_drewN (HB3.out) _ | exact below_drew HB3.out | exact below_drew (pw_below_drewN HB3.out _) | exact pw_below_drewN (below_drew HB3.out) _) hb); clear hb))
  all_goals (go_wp2; go_ret; exact ⟨by cases r <;> rfl, by first | exact HB5.out | exact pw_below_drewN HB5.out _ | exact below_drew HB5.out | exact pw_below_drewN (below_drew HB5.out) _ | exact below_drew (pw_below_drewN HB5.out _)⟩)
set_option maxRecDepth 100000 in
set_option maxHeartbeats 4000000 in
theorem unlike_no (a0 a1 a2 a3 a4 a5 a6 a7 a8 a9 : Int) (A : Option Addr) (c : Nat) (l : List S48) (b0 b1 b2 b3 b4 b5 b6 b7 b8 b9 : Int) (E : Option Addr) (d : Nat) (m : List S48) (n k : Nat) (hn : l.length = n) (hk : m.length = k) (w : World) (hr : Kd.C k48 w A n l) (hc : n ≤ c) (hs : Kd.C k48 w E k m) (hd : k ≤ d) (h5 : 0 ≤ a5 ∧ a5 < 18446744073709551616) (h9 : 0 ≤ a9 ∧ a9 < 18446744073709551616) (k5 : 0 ≤ b5 ∧ b5 < 18446744073709551616) (k9 : 0 ≤ b9 ∧ b9 < 18446744073709551616)
    (hn20 : n ≤ 20) (hk20 : k ≤ 20) (ra rb : Bool) (ha : rightB a0 a1 a2 a3 a4 a5 a6 a7 a8 a9 l = ra) (hb : rightB b0 b1 b2 b3 b4 b5 b6 b7 b8 b9 m = rb) (hab : (ra && rb) = false) :
    Calls Try.prog 6 #[.agg #[.int .i64 a0, .int .i64 a1, .int .i64 a2, .int .i64 a3, .int .i64 a4, .int .u64 a5, .int .i64 a6, .int .i64 a7, .int .i64 a8, .int .u64 a9, .slice A n c], .agg #[.int .i64 b0, .int .i64 b1, .int .i64 b2, .int .i64 b3, .int .i64 b4, .int .u64 b5, .int .i64 b6, .int .i64 b7, .int .i64 b8, .int .u64 b9, .slice E k d]] w fun e w' => e = .returned (.bool true) ∧ Below w.heap.size w w' := by
  have ENC := Aside0.mk (fun W (h : Kd.C k48 W A n l) => encode_e a0 a1 a2 a3 a4 a5 a6 a7 a8 a9 A c l W n hn h hc h5 h9 ra ha)
  have END := Aside0.mk (fun W (h : Kd.C k48 W E k m) => encode_e b0 b1 b2 b3 b4 b5 b6 b7 b8 b9 E d m W k hk h hd k5 k9 rb hb)
  have HR := Aside0.mk hr
  have HS := Aside0.mk hs
  clear hr hs hn hk ha hb h5 h9 k5 k9
  cases ra <;> cases rb
  case true.true => cases hab
  all_goals
    clear hab
    simp only [eOf] at ENC END
    go_enter Try.func6, Try.ntmps6
    go_wp2_with (first
      | (go_at_call 10; go_loud (refine (anchor_c _).mono ?_; rintro e w1 ⟨rfl, hb⟩; have HB1 := Aside0.mk (below_step (below_alloc (below_alloc (Below.refl _ _) _) _) hb); have HG := Aside0.mk (blk_below (heap_alloc2_old w _ _) hb); have HK := Aside0.mk (blk_below (heap_alloc2_new w _ _) hb); clear hb; obtain ⟨f0, f1, f2, f3, f4, f5, f6, f7, f8, f9, f10⟩ := cells11 HG.out; obtain ⟨g0, g1, g2, g3, g4, g5, g6, g7, g8, g9, g10⟩ := cells11 HK.out; have gl := World.block_lt_of_cell? w1 _ g0; dsimp only at gl))
      | (go_at_call 12; have tok1 := f0; go_loud ((with_reducible refine (ENC.out _ (Kd.C_below HR.out HB1.out)).mono ?_); rintro e w2 ⟨v1, rfl, hb⟩; have HB2 := Aside0.mk (HB1.out.trans (hb.mono HB1.out.size)); have HK2 := Aside0.mk (blk_below HK.out hb); clear hb gl tok1 f0 f1 f2 f3 f4 f5 f6 f7 f8 f9 f10 g0 g1 g2 g3 g4 g5 g6 g7 g8 g9 g10; obtain ⟨g0, g1, g2, g3, g4, g5, g6, g7, g8, g9, g10⟩ := cells11 HK2.out))
      | (go_at_call 12; go_loud ((with_reducible refine (END.out _ (Kd.C_below HS.out HB2.out)).mono ?_); rintro e w3 ⟨v2, rfl, hb⟩; have HB3 := Aside0.mk (HB2.out.trans (hb.mono HB2.out.size)); clear hb)))
    go_ret
    exact ⟨rfl, HB3.out⟩
set_option maxRecDepth 100000 in
theorem unlike_out (a0 a1 a2 a3 a4 a5 a6 a7 a8 a9 : Int) (A : Option Addr) (c : Nat) (l : List S48) (b0 b1 b2 b3 b4 b5 b6 b7 b8 b9 : Int) (E : Option Addr) (d : Nat) (m : List S48) (n k : Nat) (w : World) (hn : n ≤ 9223372036854775807) (hk : k ≤ 9223372036854775807) (h20 : 20 < n ∨ (n ≤ 20 ∧ 20 < k)) :
    Calls Try.prog 6 #[.agg #[.int .i64 a0, .int .i64 a1, .int .i64 a2, .int .i64 a3, .int .i64 a4, .int .u64 a5, .int .i64 a6, .int .i64 a7, .int .i64 a8, .int .u64 a9, .slice A n c], .agg #[.int .i64 b0, .int .i64 b1, .int .i64 b2, .int .i64 b3, .int .i64 b4, .int .u64 b5, .int .i64 b6, .int .i64 b7, .int .i64 b8, .int .u64 b9, .slice E k d]] w fun e w' => e = .returned (.bool true) ∧ Below w.heap.size w w' := by
  rcases h20 with h | ⟨h, h2⟩
  all_goals
    go_enter Try.func6, Try.ntmps6
    go_wp2_with (first
      | (go_at_call 10; go_loud (refine (anchor_c _).mono ?_; rintro e w1 ⟨rfl, hb⟩; have HB1 := Aside0.mk (below_step (below_alloc (below_alloc (Below.refl _ _) _) _) hb); have HG := Aside0.mk (blk_below (heap_alloc2_old w _ _) hb); have HK := Aside0.mk (blk_below (heap_alloc2_new w _ _) hb); clear hb; obtain ⟨f0, f1, f2, f3, f4, f5, f6, f7, f8, f9, f10⟩ := cells11 HG.out; obtain ⟨g0, g1, g2, g3, g4, g5, g6, g7, g8, g9, g10⟩ := cells11 HK.out; have gl := World.block_lt_of_cell? w1 _ g0; dsimp only at gl)))
    go_ret
    exact ⟨rfl, HB1.out⟩
theorem unlike_calls (a0 a1 a2 a3 a4 a5 a6 a7 a8 a9 : Int) (A : Option Addr) (c : Nat) (l : List S48) (w : World) (hr : Kd.C k48 w A l.length l) (hc : l.length ≤ c) (h5 : 0 ≤ a5 ∧ a5 < 18446744073709551616) (h9 : 0 ≤ a9 ∧ a9 < 18446744073709551616) (b0 b1 b2 b3 b4 b5 b6 b7 b8 b9 : Int) (E : Option Addr) (d : Nat) (m : List S48) (w2 : World) (hs : Kd.C k48 w E m.length m) (hd : m.length ≤ d) (k5 : 0 ≤ b5 ∧ b5 < 18446744073709551616) (k9 : 0 ≤ b9 ∧ b9 < 18446744073709551616) :
    Calls Try.prog 6 #[.agg #[.int .i64 a0, .int .i64 a1, .int .i64 a2, .int .i64 a3, .int .i64 a4, .int .u64 a5, .int .i64 a6, .int .i64 a7, .int .i64 a8, .int .u64 a9, .slice A l.length c], .agg #[.int .i64 b0, .int .i64 b1, .int .i64 b2, .int .i64 b3, .int .i64 b4, .int .u64 b5, .int .i64 b6, .int .i64 b7, .int .i64 b8, .int .u64 b9, .slice E m.length d]] w fun e w' => e = .returned (.bool true) ∧ Below w.heap.size w w' := by
  by_cases h1 : l.length ≤ 20
  · by_cases h2 : m.length ≤ 20
    · cases ha : rightB a0 a1 a2 a3 a4 a5 a6 a7 a8 a9 l with
      | true =>
        cases hb : rightB b0 b1 b2 b3 b4 b5 b6 b7 b8 b9 m with
        | true =>
          obtain ⟨r, hr2⟩ : ∃ r : Bool, r = true ↔ PkEq a0 a1 a2 a3 a4 a5 a6 a7 a8 a9 l b0 b1 b2 b3 b4 b5 b6 b7 b8 b9 m := by
            by_cases h : PkEq a0 a1 a2 a3 a4 a5 a6 a7 a8 a9 l b0 b1 b2 b3 b4 b5 b6 b7 b8 b9 m
            · exact ⟨true, fun _ => h, fun _ => rfl⟩
            · exact ⟨false, (fun h2 => by cases h2), fun h2 => absurd h2 h⟩
          exact unlike_yes a0 a1 a2 a3 a4 a5 a6 a7 a8 a9 A c l b0 b1 b2 b3 b4 b5 b6 b7 b8 b9 E d m _ _ rfl rfl w hr hc hs hd h5 h9 k5 k9 h1 h2 ha hb r hr2
        | false => exact unlike_no a0 a1 a2 a3 a4 a5 a6 a7 a8 a9 A c l b0 b1 b2 b3 b4 b5 b6 b7 b8 b9 E d m _ _ rfl rfl w hr hc hs hd h5 h9 k5 k9 h1 h2 true false ha hb rfl
      | false =>
        obtain ⟨rb, hb⟩ : ∃ rb, rightB b0 b1 b2 b3 b4 b5 b6 b7 b8 b9 m = rb := ⟨_, rfl⟩
        exact unlike_no a0 a1 a2 a3 a4 a5 a6 a7 a8 a9 A c l b0 b1 b2 b3 b4 b5 b6 b7 b8 b9 E d m _ _ rfl rfl w hr hc hs hd h5 h9 k5 k9 h1 h2 false rb ha hb rfl
    · exact unlike_out a0 a1 a2 a3 a4 a5 a6 a7 a8 a9 A c l b0 b1 b2 b3 b4 b5 b6 b7 b8 b9 E d m _ _ w hr.2.1 hs.2.1 (.inr ⟨h1, by omega⟩)
  · exact unlike_out a0 a1 a2 a3 a4 a5 a6 a7 a8 a9 A c l b0 b1 b2 b3 b4 b5 b6 b7 b8 b9 E d m _ _ w hr.2.1 hs.2.1 (.inl (by omega))
end Go.Proofs.Ytldiipomcenbkaa.Qw
