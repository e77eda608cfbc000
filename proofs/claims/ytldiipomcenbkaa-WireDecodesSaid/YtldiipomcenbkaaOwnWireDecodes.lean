/- WireDecodes by hand: any bytes are the packet that the document says, or have its first error. -/
import Derived.Test.YtldiipomcenbkaaHandK
import Derived.Test.YtldiipomcenbkaaHandA
import Derived.Test.YtldiipomcenbkaaOwnWireEncodes
import Derived.RegionCalls
namespace Go.Proofs.Ytldiipomcenbkaa.Qw
open Go.RowKit Go.Proofs.YtldiipomcenbkaaW.PrintWords Go.Proofs.YtldiipomcenbkaaW.PrintLast Go.Proofs.YtldiipomcenbkaaW.PrintMore
open HandS (Bytes byte_at add_block)
set_option linter.unusedVariables false
set_option linter.unusedSimpArgs false
theorem decodes_long (a : Option Addr) (cap len : Nat) (l : List Nat) (w : World) (hl : Bytes w a len l) (hc : len ≤ cap) (h4 : 400 < len) : Calls Try.prog 4 #[.slice a len cap] w fun e w' => e = .returned (.bool true) ∧ Below w.heap.size w w' := by
  have hm := hl.2.1
  clear hl
  go_enter Try.func4, Try.ntmps4
  go_wp2_with (first
    | (go_at_call 10; go_loud (refine (anchor_c _).mono ?_; rintro e w1 ⟨rfl, hb⟩; have HB1 := Aside0.mk hb; clear hb)))
  go_ret
  exact ⟨rfl, HB1.out⟩
set_option maxRecDepth 100000 in
set_option maxHeartbeats 8000000 in
theorem decodes_bad (a : Option Addr) (cap len : Nat) (l : List Nat) (w : World) (hl : Bytes w a len l) (hc : len ≤ cap) (h4 : len ≤ 400) (F : Nat) (hF : F ≠ 0)
    (hD : ∀ W, Bytes W a len l → Calls Try.prog 15 #[.slice a len cap] W fun e w' => e = .returned (.tuple #[zeroP, .int .i64 F]) ∧ Below W.heap.size W w')
    (hR : ∀ W, Bytes W a len l → Calls Try.prog 19 #[.slice a len cap] W fun e w' => e = .returned (.tuple #[zeroP, .int .i64 F]) ∧ Below W.heap.size W w') : Calls Try.prog 4 #[.slice a len cap] w fun e w' => e = .returned (.bool true) ∧ Below w.heap.size w w' := by
  have HL := Aside0.mk hl
  have hm := hl.2.1
  unfold zeroP at hD hR
  have DEC := Aside0.mk hD
  have RDEC := Aside0.mk hR
  have h0i : ((F : Int) != 0) = true := bne_iff_ne.mpr (by omega)
  clear hl hD hR hF
  go_enter Try.func4, Try.ntmps4
  go_wp2_with (first
    | (go_at_call 10; go_loud (refine (anchor_c _).mono ?_; rintro e w1 ⟨rfl, hb⟩; have HB1 := Aside0.mk hb; clear hb))
    | (go_at_call 15; go_loud ((with_reducible refine (DEC.out _ (HL.out.below HB1.out)).mono ?_); rintro e w2 ⟨rfl, hb⟩; have HB2 := Aside0.mk (HB1.out.trans (hb.mono HB1.out.size)); clear hb))
    | (go_at_call 19; go_loud ((with_reducible refine (RDEC.out _ (HL.out.below (below_alloc HB2.out _))).mono ?_); rintro e w3 ⟨rfl, hb⟩; have HG := Aside0.mk (blk_below (blk_new w2 _) hb); have HB3 := Aside0.mk (below_step (below_alloc HB2.out _) hb); clear hb; obtain ⟨f0, f1, f2, f3, f4, f5, f6, f7, f8, f9, f10⟩ := cells11 HG.out; have gl := World.block_lt_of_cell? w3 _ f0; dsimp only at gl)))
  go_ret
  exact ⟨rfl, below_alloc HB3.out _⟩
/-- What the document's Decode answers of a right packet's bytes. -/
def RDecYes (a0 a1 a2 a3 a4 a5 a6 a7 a8 a9 : Int) (l : List S48) (k : Nat) (w : World) (e : Ending) (w' : World) : Prop :=
  ∃ E d, e = .returned (.tuple #[.agg #[.int .i64 a0, .int .i64 a1, .int .i64 a2, .int .i64 a3, .int .i64 a4, .int .u64 a5, .int .i64 a6, .int .i64 a7, .int .i64 a8, .int .u64 a9, .slice E k d], .int .i64 0]) ∧ Kd.C k49 w' E k (l.map to49) ∧ k ≤ d ∧ Below w.heap.size w w'
set_option maxRecDepth 100000 in
set_option maxHeartbeats 16000000 in
theorem decodes_good (a0 a1 a2 a3 a4 a5 a6 a7 a8 a9 : Int) (s : List S48) (n : Nat) (hn : s.length = n) (hrt : rightB a0 a1 a2 a3 a4 a5 a6 a7 a8 a9 s = true) (h5 : 0 ≤ a5 ∧ a5 < 18446744073709551616) (h9 : 0 ≤ a9 ∧ a9 < 18446744073709551616) (hn20 : n ≤ 20) (nn : Nat) (hnn : 79 + 9 * n = nn) (bs : List Nat) (hbs : encI a0 a1 a2 a3 a4 a5 a6 a7 a8 a9 s = bs)
    (a : Option Addr) (cap : Nat) (w : World) (hl : Bytes w a nn bs) (hc : nn ≤ cap) (h4 : nn ≤ 400)
    (hR : ∀ W, Bytes W a nn bs → Calls Try.prog 19 #[.slice a nn cap] W (RDecYes a0 a1 a2 a3 a4 a5 a6 a7 a8 a9 s n W)) : Calls Try.prog 4 #[.slice a nn cap] w fun e w' => e = .returned (.bool true) ∧ Below w.heap.size w w' := by
  have HL := Aside0.mk hl
  have hm := hl.2.1
  have RDEC := Aside0.mk hR
  have MADE := Aside0.mk (fun W (A : Option Addr) (c : Nat) (h : Kd.C k48 W A n s) (hc : n ≤ c) => made_c a0 a1 a2 a3 a4 a5 a6 a7 a8 a9 A c s n hn W h hc hn20)
  have ENC := Aside0.mk (fun W (A : Option Addr) (c : Nat) (h : Kd.C k48 W A n s) (hc : n ≤ c) => encode_r a0 a1 a2 a3 a4 a5 a6 a7 a8 a9 A c s W (by rw [hn]; exact h) (by omega) h5 h9 hrt bs hbs nn (by omega))
  rw [hn] at ENC
  have DEC := Aside0.mk (fun W (h : Bytes W a nn bs) => decode_r a0 a1 a2 a3 a4 a5 a6 a7 a8 a9 s hrt h5 h9 a cap nn W bs hbs n hn h hc)
  have RENC := Aside0.mk (fun W (E : Option Addr) (d : Nat) (h : Kd.C k49 W E n (s.map to49)) (hd : n ≤ d) => renc_c a0 a1 a2 a3 a4 a5 a6 a7 a8 a9 s hrt h5 h9 bs hbs n hn nn hnn E d W h hd)
  have SAME := Aside0.mk (fun W X Y x y (h1 : Bytes W X nn bs) (h1c : nn ≤ x) (h2 : Bytes W Y nn bs) (h2c : nn ≤ y) => same_c X Y x y nn nn bs bs W h1 h1c h2 h2c true ⟨fun _ => rfl, fun _ => rfl⟩)
  clear hl hR hrt hn h5 h9 hbs hnn
  go_enter Try.func4, Try.ntmps4
  go_wp2_with (first
    | (go_at_call 10; go_loud (refine (anchor_c _).mono ?_; rintro e w1 ⟨rfl, hb⟩; have HB1 := Aside0.mk hb; clear hb))
    | (go_at_call 15; go_loud ((with_reducible refine (DEC.out _ (HL.out.below HB1.out)).mono ?_); rintro e w2 ⟨A2, c2, rfl, hC, hc2, hb⟩; have HP2 := Aside0.mk hC; have HB2 := Aside0.mk (HB1.out.trans (hb.mono HB1.out.size)); clear hC hb))
    | (go_at_call 19; go_loud ((with_reducible refine (RDEC.out _ (HL.out.below (below_alloc HB2.out _))).mono ?_); rintro e w3 ⟨E3, d3, rfl, hX, hd3, hb⟩; have HG3 := Aside0.mk (blk_below (blk_new w2 _) hb); have HX3 := Aside0.mk hX; have HP3 := Aside0.mk (Kd.C_below (Kd.C_alloc HP2.out _) hb); have HB3 := Aside0.mk (below_step (below_alloc HB2.out _) hb); clear hX hb; obtain ⟨f0, f1, f2, f3, f4, f5, f6, f7, f8, f9, f10⟩ := cells11 HG3.out; have gl := World.block_lt_of_cell? w3 _ f0; dsimp only at gl))
    | (go_at_call 11; go_loud ((with_reducible refine (MADE.out _ _ _ (Kd.C_alloc HP3.out _) hc2).mono ?_); rintro e w4 ⟨E4, d4, rfl, hY, hd4, hb⟩; have HG4 := Aside0.mk (blk_below (blk_alloc HG3.out _) hb); have HXB4 := Aside0.mk (blk_below (blk_new w3 _) hb); have HX4 := Aside0.mk (Kd.C_below (Kd.C_alloc HX3.out _) hb); have HP4 := Aside0.mk (Kd.C_below (Kd.C_alloc HP3.out _) hb); have HY4 := Aside0.mk hY; have HB4 := Aside0.mk (below_step (below_alloc HB3.out _) hb); clear hY hb gl f0 f1 f2 f3 f4 f5 f6 f7 f8 f9 f10; obtain ⟨f0, f1, f2, f3, f4, f5, f6, f7, f8, f9, f10⟩ := cells11 HG4.out; obtain ⟨x0, x1, x2, x3, x4, x5, x6, x7, x8, x9, x10⟩ := cells11 HXB4.out; have gl := World.block_lt_of_cell? w4 _ f0; dsimp only at gl; have gl2 := World.block_lt_of_cell? w4 _ x0; dsimp only at gl2))
    | (go_at_call 12; go_loud ((with_reducible refine (ENC.out _ _ _ (Kd.C_alloc HP4.out _) hc2).mono ?_); rintro e w5 ⟨g5, c5, rfl, ho, hby, hcl, hge, hb⟩; have HXB5 := Aside0.mk (blk_below (blk_alloc HXB4.out _) hb); have HYB5 := Aside0.mk (blk_below (blk_new w4 _) hb); have HX5 := Aside0.mk (Kd.C_below (Kd.C_alloc HX4.out _) hb); have HY5 := Aside0.mk (Kd.C_below (Kd.C_alloc HY4.out _) hb); have HBY5 := Aside0.mk hby; have HB5 := Aside0.mk (below_step (below_alloc HB4.out _) hb); have HBC := Aside0.mk (Below.refl w5.heap.size w5); clear ho hby hge hb gl gl2 f0 f1 f2 f3 f4 f5 f6 f7 f8 f9 f10 x0 x1 x2 x3 x4 x5 x6 x7 x8 x9 x10; obtain ⟨x0, x1, x2, x3, x4, x5, x6, x7, x8, x9, x10⟩ := cells11 HXB5.out; obtain ⟨y0, y1, y2, y3, y4, y5, y6, y7, y8, y9, y10⟩ := cells11 HYB5.out)))
  go_region_with (first
    | (go_at_call 17; go_loud ((with_reducible refine (RENC.out _ E3 d3 (Kd.C_below HX5.out (by first | exact HBC.out | exact below_drew HBC.out | exact pw_below_drewN HBC.out _)) hd3).mono ?_); rintro e w6 ⟨g6, c6, rfl, hby6, hc6, hb⟩; have HBC' := Aside0.mk (below_step (by first | exact HBC.out | exact below_drew HBC.out | exact pw_below_drewN HBC.out _) hb); have HBY6 := Aside0.mk hby6; clear hb hby6 HBC x0 x1 x2 x3 x4 x5 x6 x7 x8 x9 x10 y0 y1 y2 y3 y4 y5 y6 y7 y8 y9 y10; have HBC := HBC'; clear HBC'; obtain ⟨x0, x1, x2, x3, x4, x5, x6, x7, x8, x9, x10⟩ := cells11 (blk_below HXB5.out HBC.out); obtain ⟨y0, y1, y2, y3, y4, y5, y6, y7, y8, y9, y10⟩ := cells11 (blk_below HYB5.out HBC.out)))
    | (go_at_call 17; go_loud ((with_reducible refine (RENC.out _ E4 d4 (Kd.C_below HY5.out (by first | exact HBC.out | exact below_drew HBC.out | exact pw_below_drewN HBC.out _)) hd4).mono ?_); rintro e w7 ⟨g7, c7, rfl, hby7, hc7, hb⟩; have HBY67 := Aside0.mk ((HBY6.out.below (by first | exact Below.refl _ _ | exact below_drew (Below.refl _ _))).below hb); have HBC' := Aside0.mk (below_step (by first | exact HBC.out | exact below_drew HBC.out | exact pw_below_drewN HBC.out _) hb); have HBY7 := Aside0.mk hby7; clear hb hby7 HBC x0 x1 x2 x3 x4 x5 x6 x7 x8 x9 x10 y0 y1 y2 y3 y4 y5 y6 y7 y8 y9 y10; have HBC := HBC'; have HBC7 := HBC'; clear HBC'))
    | (go_at_call 16; go_loud ((with_reducible refine (SAME.out _ _ _ _ _ (HBY67.out.below (by first | exact Below.refl _ _ | exact below_drew (Below.refl _ _))) hc6 (HBY7.out.below (by first | exact Below.refl _ _ | exact below_drew (Below.refl _ _))) hc7).mono ?_); rintro e w8 ⟨rfl, ⟨nd, rfl⟩⟩; have HBC' := Aside0.mk (pw_below_drewN (by first | exact HBC.out | exact below_drew HBC.out) nd); clear HBC; have HBC := HBC'; clear HBC'))
    | (go_at_call 16; go_loud ((with_reducible refine (SAME.out _ _ _ _ _ (HL.out.below (below_step HB5.out (by first | exact HBC.out | exact below_drew HBC.out | exact pw_below_drewN HBC.out _))) hc (HBY5.out.below (by first | exact HBC.out | exact below_drew HBC.out | exact pw_below_drewN HBC.out _)) hcl).mono ?_); rintro e w9 ⟨rfl, ⟨nd9, rfl⟩⟩; have HB9 := Aside0.mk (below_step HB5.out (pw_below_drewN (by first | exact HBC.out | exact below_drew HBC.out | exact pw_below_drewN HBC.out _) nd9)))))
  all_goals go_wp2
  all_goals go_ret
  all_goals first | exact ⟨rfl, below_step HB5.out (pw_below_drewN HBC7.out _)⟩ | exact ⟨rfl, HB9.out⟩ | exact ⟨rfl, below_step HB5.out (below_drew (pw_below_drewN HBC7.out _))⟩
theorem decodes_calls (a : Option Addr) (cap len : Nat) (l : List Nat) (w : World) (hl : Bytes w a len l) (hc : len ≤ cap) : Calls Try.prog 4 #[.slice a len cap] w fun e w' => e = .returned (.bool true) ∧ Below w.heap.size w w' := by
  by_cases h4 : len ≤ 400
  · by_cases hF : frameN l = 0
    · cases hrt : rightD l with
      | false =>
        exact decodes_bad a cap len l w hl hc h4 10 (by decide) (fun W h => decode_ok a cap len l W h hc hF false hrt) (fun W h => rdecode_ok a cap len l W h hc hF false hrt)
      | true =>
        have hrt' := hrt
        unfold rightD at hrt'
        obtain ⟨h1, h2, -, -, -, -, -, -⟩ := frame_ok hF
        have hs : (secOf l).length = l.getD 76 0 := by unfold secOf; rw [List.length_map, List.length_range]
        have hlen := hl.1
        have q4 := fld_lt hl.2.2.1 4
        have q8 := fld_lt hl.2.2.1 8
        exact decodes_good _ _ _ _ _ _ _ _ _ _ (secOf l) _ rfl hrt' (by omega) (by omega) (by omega) len (by omega) l (enc_dec l hl.2.2.1 hF hrt) a cap w hl hc h4 (fun W h => (rdecode_ok a cap len l W h hc hF true hrt).mono (by
          rintro e w' ⟨v, g1, g2, g3⟩
          obtain ⟨E, d, rfl, hle, hC⟩ := Kd.R_reads g2
          rw [List.length_map] at g1 hle hC
          exact ⟨E, d, g1, hC, hle, g3⟩))
    · exact decodes_bad a cap len l w hl hc h4 (frameN l) hF (fun W h => decode_err a cap len l W h hc _ rfl hF) (fun W h => rdecode_err a cap len l W h hc _ rfl hF)
  · exact decodes_long a cap len l w hl hc (by omega)
end Go.Proofs.Ytldiipomcenbkaa.Qw
