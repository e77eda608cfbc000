/- WireEncodes by hand: a packet's rightness and bytes are the document's. -/
import Derived.Test.YtldiipomcenbkaaHandU
import Derived.RegionCalls
namespace Go.Proofs.Ytldiipomcenbkaa.Qw
open Go.RowKit Go.Proofs.YtldiipomcenbkaaW.PrintWords Go.Proofs.YtldiipomcenbkaaW.PrintLast Go.Proofs.YtldiipomcenbkaaW.PrintMore
open HandS (Bytes byte_at add_block)
set_option linter.unusedVariables false
set_option linter.unusedSimpArgs false
theorem renc_c (a0 a1 a2 a3 a4 a5 a6 a7 a8 a9 : Int) (l : List S48) (hrt : rightB a0 a1 a2 a3 a4 a5 a6 a7 a8 a9 l = true) (h5 : 0 ≤ a5 ∧ a5 < 18446744073709551616) (h9 : 0 ≤ a9 ∧ a9 < 18446744073709551616) (bs : List Nat) (hbs : encI a0 a1 a2 a3 a4 a5 a6 a7 a8 a9 l = bs) (n : Nat) (hn : l.length = n) (nn : Nat) (hnn : 79 + 9 * n = nn)
    (E : Option Addr) (d : Nat) (w : World) (hC : Kd.C k49 w E n (l.map to49)) (hd : n ≤ d) :
    Calls Try.prog 17 #[.agg #[.int .i64 a0, .int .i64 a1, .int .i64 a2, .int .i64 a3, .int .i64 a4, .int .u64 a5, .int .i64 a6, .int .i64 a7, .int .i64 a8, .int .u64 a9, .slice E n d]] w fun e w' => ∃ g c, e = .returned (.slice (some ⟨g, 0, none⟩) nn c) ∧ Bytes w' (some ⟨g, 0, none⟩) nn bs ∧ nn ≤ c ∧ Below w.heap.size w w' := by
  have R := right_of hrt
  have r1 := R.k1; have r7 := R.k7
  have y0 : ((a0.toNat : Nat) : Int) = a0 := by omega
  have y1 : ((a1.toNat : Nat) : Int) = a1 := by have := R.f1; omega
  have y2 : ((a2.toNat : Nat) : Int) = a2 := by have := R.e0; omega
  have y3 : ((a3.toNat : Nat) : Int) = a3 := by have := R.c0; omega
  have y4 : ((a4.toNat : Nat) : Int) = a4 := by have := R.m0; omega
  have y5 : ((a5.toNat : Nat) : Int) = a5 := by omega
  have y6 : ((a6.toNat : Nat) : Int) = a6 := by have := R.o0; omega
  have y7 : ((a7.toNat : Nat) : Int) = a7 := by have := R.b0; omega
  have y8 : ((a8.toNat : Nat) : Int) = a8 := by have := R.g0; omega
  have y9 : ((a9.toNat : Nat) : Int) = a9 := by omega
  have hf := renc_f a0.toNat a1.toNat a2.toNat a3.toNat a4.toNat a5.toNat a6.toNat a7.toNat a8.toNat a9.toNat l (fun x hx => by have := R.sec x hx; omega) (by have := R.len; omega) (by omega) (by have := R.f2; omega) (by have := R.e1; omega) (by have := R.c1; have := R.e1; omega) (by have := R.m1; omega) (by omega) (by have := R.o1; omega) (by have := R.b1; omega) (by have := R.g1; omega) (by omega)
  rw [y0, y1, y2, y3, y4, y5, y6, y7, y8, y9] at hf
  have hl : (l.map to49).length = n := by rw [List.length_map, hn]
  have hlt := encI_lt R
  have hlen : (encI a0 a1 a2 a3 a4 a5 a6 a7 a8 a9 l).length = nn := by rw [encI_length, hn, hnn]
  rw [← hl] at hC hd ⊢
  refine (grapevineref11_Encode.calls 5000 a0 a1 a2 a3 a4 a5 a6 a7 a8 a9 E d (l.map to49) _ w hC hd hf).mono ?_
  rintro e w' ⟨v, rfl, h2, h3⟩
  have h2' : Own w w' v bs := hbs ▸ h2
  rw [hbs] at hlt hlen
  obtain ⟨g, c', rfl, hle, hge⟩ := own_form h2' (by omega)
  obtain ⟨a', c2, hv, hby, _⟩ := own_bytes h2' hlt
  rw [hlen] at hv hby hle
  injection hv with e1 e2 e3
  subst e1
  exact ⟨g, c', by rw [hlen], hby, hle, h3⟩
set_option maxRecDepth 100000 in
set_option maxHeartbeats 8000000 in
theorem encodes_no (a0 a1 a2 a3 a4 a5 a6 a7 a8 a9 : Int) (A : Option Addr) (c : Nat) (l : List S48) (n : Nat) (hn : l.length = n) (w : World) (hr : Kd.C k48 w A n l) (hc : n ≤ c) (hn20 : n ≤ 20) (h5 : 0 ≤ a5 ∧ a5 < 18446744073709551616) (h9 : 0 ≤ a9 ∧ a9 < 18446744073709551616) (hrt : rightB a0 a1 a2 a3 a4 a5 a6 a7 a8 a9 l = false) : Calls Try.prog 3 #[.agg #[.int .i64 a0, .int .i64 a1, .int .i64 a2, .int .i64 a3, .int .i64 a4, .int .u64 a5, .int .i64 a6, .int .i64 a7, .int .i64 a8, .int .u64 a9, .slice A n c]] w fun e w' => e = .returned (.bool true) ∧ Below w.heap.size w w' := by
  have RC := Aside0.mk (fun W (h : Kd.C k48 W A n l) => right_c a0 a1 a2 a3 a4 a5 a6 a7 a8 a9 A c l W (by rw [hn]; exact h) (by omega) false hrt)
  rw [hn] at RC
  have RR := Aside0.mk (fun W (E : Option Addr) (d : Nat) (h : Kd.C k49 W E n (l.map to49)) (hd : n ≤ d) => rright_c a0 a1 a2 a3 a4 a5 a6 a7 a8 a9 E d l n hn W h hd hn20 h5.1 h9.1)
  rw [hrt] at RR
  have MADE := Aside0.mk (fun W (h : Kd.C k48 W A n l) => made_c a0 a1 a2 a3 a4 a5 a6 a7 a8 a9 A c l n hn W h hc hn20)
  have ENC := Aside0.mk (fun W (h : Kd.C k48 W A n l) => encode_no a0 a1 a2 a3 a4 a5 a6 a7 a8 a9 A c l W (by rw [hn]; exact h) (by omega) hrt)
  rw [hn] at ENC
  have HR := Aside0.mk hr
  clear hr hrt hn h5 h9
  go_enter Try.func3, Try.ntmps3
  go_wp2_with (first
    | (go_at_call 10; go_loud (refine (anchor_c _).mono ?_; rintro e w1 ⟨rfl, hb⟩; have HB1 := Aside0.mk (below_step (below_alloc (Below.refl _ _) _) hb); have HG := Aside0.mk (blk_below (blk_new w _) hb); clear hb; obtain ⟨f0, f1, f2, f3, f4, f5, f6, f7, f8, f9, f10⟩ := cells11 HG.out; have gl := World.block_lt_of_cell? w1 _ f0; dsimp only at gl))
    | (go_at_call 11; go_loud ((with_reducible refine (MADE.out _ (Kd.C_below HR.out HB1.out)).mono ?_); rintro e w2 ⟨E, d, rfl, hC, hd, hb⟩; have HB2 := Aside0.mk (HB1.out.trans (hb.mono HB1.out.size)); have HG2 := Aside0.mk (blk_below HG.out hb); have HC2 := Aside0.mk hC; have HD := Aside0.mk hd; clear hC hb gl f0 f1 f2 f3 f4 f5 f6 f7 f8 f9 f10; obtain ⟨f0, f1, f2, f3, f4, f5, f6, f7, f8, f9, f10⟩ := cells11 HG2.out; have gl := World.block_lt_of_cell? w2 _ f0; dsimp only at gl))
    | (go_at_call 12; go_loud ((with_reducible refine (ENC.out _ (Kd.C_below HR.out (HB2.out.alloc HB2.out.size _))).mono ?_); rintro e w3 ⟨rfl, hb⟩; have HB3 := Aside0.mk (below_step (below_alloc HB2.out _) hb); have HG3 := Aside0.mk (blk_below (blk_alloc HG2.out _) hb); have HX3 := Aside0.mk (blk_below (blk_new w2 _) hb); have HC3 := Aside0.mk (Kd.C_below (Kd.C_alloc HC2.out _) hb); have HBC := Aside0.mk (Below.refl w3.heap.size w3); clear hb gl f0 f1 f2 f3 f4 f5 f6 f7 f8 f9 f10; obtain ⟨f0, f1, f2, f3, f4, f5, f6, f7, f8, f9, f10⟩ := cells11 HG3.out; obtain ⟨x0, x1, x2, x3, x4, x5, x6, x7, x8, x9, x10⟩ := cells11 HX3.out)))
  go_region_with (first
    | (go_at_call 13; ((with_reducible refine (RC.out _ (Kd.C_below HR.out (below_step HB3.out (by first | exact HBC.out | exact below_drew HBC.out | exact pw_below_drewN HBC.out _)))).mono ?_); rintro e w4 ⟨rfl, hb⟩; have HBC' := Aside0.mk (below_step (by first | exact HBC.out | exact below_drew HBC.out | exact pw_below_drewN HBC.out _) hb); clear hb HBC f0 f1 f2 f3 f4 f5 f6 f7 f8 f9 f10 x0 x1 x2 x3 x4 x5 x6 x7 x8 x9 x10; have HBC := HBC'; clear HBC'; obtain ⟨f0, f1, f2, f3, f4, f5, f6, f7, f8, f9, f10⟩ := cells11 (blk_below HG3.out HBC.out); obtain ⟨x0, x1, x2, x3, x4, x5, x6, x7, x8, x9, x10⟩ := cells11 (blk_below HX3.out HBC.out)))
    | (go_at_call 14; ((with_reducible refine (RR.out _ _ _ (Kd.C_below HC3.out (by first | exact HBC.out | exact below_drew HBC.out | exact pw_below_drewN HBC.out _)) HD.out).mono ?_); rintro e w5 ⟨rfl, hb⟩; have HBC' := Aside0.mk (below_step (by first | exact HBC.out | exact below_drew HBC.out | exact pw_below_drewN HBC.out _) hb); clear hb HBC f0 f1 f2 f3 f4 f5 f6 f7 f8 f9 f10 x0 x1 x2 x3 x4 x5 x6 x7 x8 x9 x10; have HBC := HBC'; clear HBC'; obtain ⟨f0, f1, f2, f3, f4, f5, f6, f7, f8, f9, f10⟩ := cells11 (blk_below HG3.out HBC.out); obtain ⟨x0, x1, x2, x3, x4, x5, x6, x7, x8, x9, x10⟩ := cells11 (blk_below HX3.out HBC.out))))
  all_goals
    go_wp2_with (go_at_call 14; ((with_reducible refine (RR.out _ _ _ (Kd.C_below HC3.out (by first | exact HBC.out | exact below_drew HBC.out | exact pw_below_drewN HBC.out _)) HD.out).mono ?_); rintro e w5 ⟨rfl, hb⟩; have HBC' := Aside0.mk (below_step (by first | exact HBC.out | exact below_drew HBC.out | exact pw_below_drewN HBC.out _) hb); clear hb HBC f0 f1 f2 f3 f4 f5 f6 f7 f8 f9 f10 x0 x1 x2 x3 x4 x5 x6 x7 x8 x9 x10; have HBC := HBC'; clear HBC'; obtain ⟨f0, f1, f2, f3, f4, f5, f6, f7, f8, f9, f10⟩ := cells11 (blk_below HG3.out HBC.out); obtain ⟨x0, x1, x2, x3, x4, x5, x6, x7, x8, x9, x10⟩ := cells11 (blk_below HX3.out HBC.out)))
    go_ret
    exact ⟨rfl, below_step HB3.out HBC.out⟩
set_option maxRecDepth 100000 in
set_option maxHeartbeats 16000000 in
theorem encodes_yes (a0 a1 a2 a3 a4 a5 a6 a7 a8 a9 : Int) (A : Option Addr) (c : Nat) (l : List S48) (n : Nat) (hn : l.length = n) (w : World) (hr : Kd.C k48 w A n l) (hc : n ≤ c) (hn20 : n ≤ 20) (h5 : 0 ≤ a5 ∧ a5 < 18446744073709551616) (h9 : 0 ≤ a9 ∧ a9 < 18446744073709551616) (hrt : rightB a0 a1 a2 a3 a4 a5 a6 a7 a8 a9 l = true) (nn : Nat) (hnn : 79 + 9 * n = nn) : Calls Try.prog 3 #[.agg #[.int .i64 a0, .int .i64 a1, .int .i64 a2, .int .i64 a3, .int .i64 a4, .int .u64 a5, .int .i64 a6, .int .i64 a7, .int .i64 a8, .int .u64 a9, .slice A n c]] w fun e w' => e = .returned (.bool true) ∧ Below w.heap.size w w' := by
  obtain ⟨bs, hbs⟩ : ∃ bs, encI a0 a1 a2 a3 a4 a5 a6 a7 a8 a9 l = bs := ⟨_, rfl⟩
  have RC := Aside0.mk (fun W (h : Kd.C k48 W A n l) => right_c a0 a1 a2 a3 a4 a5 a6 a7 a8 a9 A c l W (by rw [hn]; exact h) (by omega) true hrt)
  rw [hn] at RC
  have RR := Aside0.mk (fun W (E : Option Addr) (d : Nat) (h : Kd.C k49 W E n (l.map to49)) (hd : n ≤ d) => rright_c a0 a1 a2 a3 a4 a5 a6 a7 a8 a9 E d l n hn W h hd hn20 h5.1 h9.1)
  rw [hrt] at RR
  have MADE := Aside0.mk (fun W (h : Kd.C k48 W A n l) => made_c a0 a1 a2 a3 a4 a5 a6 a7 a8 a9 A c l n hn W h hc hn20)
  have ENC := Aside0.mk (fun W (h : Kd.C k48 W A n l) => encode_r a0 a1 a2 a3 a4 a5 a6 a7 a8 a9 A c l W (by rw [hn]; exact h) (by omega) h5 h9 hrt bs hbs nn (by omega))
  rw [hn] at ENC
  have DEC := Aside0.mk (fun W a cp ln (h : Bytes W a ln bs) (h2 : ln ≤ cp) => decode_r a0 a1 a2 a3 a4 a5 a6 a7 a8 a9 l hrt h5 h9 a cp ln W bs hbs n hn h h2)
  have RENC := Aside0.mk (fun W (E : Option Addr) (d : Nat) (h : Kd.C k49 W E n (l.map to49)) (hd : n ≤ d) => renc_c a0 a1 a2 a3 a4 a5 a6 a7 a8 a9 l hrt h5 h9 bs hbs n hn nn hnn E d W h hd)
  have SAME := Aside0.mk (fun W X Y x y (h1 : Bytes W X nn bs) (h1c : nn ≤ x) (h2 : Bytes W Y nn bs) (h2c : nn ≤ y) => same_c X Y x y nn nn bs bs W h1 h1c h2 h2c true ⟨fun _ => rfl, fun _ => rfl⟩)
  have SPK := Aside0.mk (fun W (E : Option Addr) (d : Nat) (h1 : Kd.C k48 W A n l) (h2 : Kd.C k48 W E n l) (h3 : n ≤ d) => samePk_c a0 a1 a2 a3 a4 a5 a6 a7 a8 a9 A c l a0 a1 a2 a3 a4 a5 a6 a7 a8 a9 E d l n n hn hn W h1 hc h2 h3 true ⟨fun _ => ⟨rfl, rfl, rfl, rfl, rfl, rfl, rfl, rfl, rfl, rfl, rfl⟩, fun _ => rfl⟩)
  have HR := Aside0.mk hr
  clear hr hrt hn h5 h9 hbs hnn
  go_enter Try.func3, Try.ntmps3
  go_wp2_with (first
    | (go_at_call 10; go_loud (refine (anchor_c _).mono ?_; rintro e w1 ⟨rfl, hb⟩; have HB1 := Aside0.mk (below_step (below_alloc (Below.refl _ _) _) hb); have HG := Aside0.mk (blk_below (blk_new w _) hb); clear hb; obtain ⟨f0, f1, f2, f3, f4, f5, f6, f7, f8, f9, f10⟩ := cells11 HG.out; have gl := World.block_lt_of_cell? w1 _ f0; dsimp only at gl))
    | (go_at_call 11; go_loud ((with_reducible refine (MADE.out _ (Kd.C_below HR.out HB1.out)).mono ?_); rintro e w2 ⟨E, d, rfl, hC, hd, hb⟩; have HB2 := Aside0.mk (HB1.out.trans (hb.mono HB1.out.size)); have HG2 := Aside0.mk (blk_below HG.out hb); have HC2 := Aside0.mk hC; have HD := Aside0.mk hd; clear hC hb gl f0 f1 f2 f3 f4 f5 f6 f7 f8 f9 f10; obtain ⟨f0, f1, f2, f3, f4, f5, f6, f7, f8, f9, f10⟩ := cells11 HG2.out; have gl := World.block_lt_of_cell? w2 _ f0; dsimp only at gl))
    | (go_at_call 12; go_loud ((with_reducible refine (ENC.out _ (Kd.C_below HR.out (HB2.out.alloc HB2.out.size _))).mono ?_); rintro e w3 ⟨g, c1, rfl, ho, hby, hcl, hge, hb⟩; have HBY := Aside0.mk hby; clear ho hby hge; have HB3 := Aside0.mk (below_step (below_alloc HB2.out _) hb); have HG3 := Aside0.mk (blk_below (blk_alloc HG2.out _) hb); have HX3 := Aside0.mk (blk_below (blk_new w2 _) hb); have HC3 := Aside0.mk (Kd.C_below (Kd.C_alloc HC2.out _) hb); have HBC := Aside0.mk (Below.refl w3.heap.size w3); clear hb gl f0 f1 f2 f3 f4 f5 f6 f7 f8 f9 f10; obtain ⟨f0, f1, f2, f3, f4, f5, f6, f7, f8, f9, f10⟩ := cells11 HG3.out; obtain ⟨x0, x1, x2, x3, x4, x5, x6, x7, x8, x9, x10⟩ := cells11 HX3.out)))
  go_region_with (first
    | (go_at_call 13; ((with_reducible refine (RC.out _ (Kd.C_below HR.out (below_step HB3.out (by first | exact HBC.out | exact below_drew HBC.out | exact pw_below_drewN HBC.out _)))).mono ?_); rintro e w4 ⟨rfl, hb⟩; have HBC' := Aside0.mk (below_step (by first | exact HBC.out | exact below_drew HBC.out | exact pw_below_drewN HBC.out _) hb); clear hb HBC f0 f1 f2 f3 f4 f5 f6 f7 f8 f9 f10 x0 x1 x2 x3 x4 x5 x6 x7 x8 x9 x10; have HBC := HBC'; clear HBC'; obtain ⟨f0, f1, f2, f3, f4, f5, f6, f7, f8, f9, f10⟩ := cells11 (blk_below HG3.out HBC.out); obtain ⟨x0, x1, x2, x3, x4, x5, x6, x7, x8, x9, x10⟩ := cells11 (blk_below HX3.out HBC.out)))
    | (go_at_call 14; ((with_reducible refine (RR.out _ _ _ (Kd.C_below HC3.out (by first | exact HBC.out | exact below_drew HBC.out | exact pw_below_drewN HBC.out _)) HD.out).mono ?_); rintro e w5 ⟨rfl, hb⟩; have HBC' := Aside0.mk (below_step (by first | exact HBC.out | exact below_drew HBC.out | exact pw_below_drewN HBC.out _) hb); clear hb HBC f0 f1 f2 f3 f4 f5 f6 f7 f8 f9 f10 x0 x1 x2 x3 x4 x5 x6 x7 x8 x9 x10; have HBC := HBC'; clear HBC'; obtain ⟨f0, f1, f2, f3, f4, f5, f6, f7, f8, f9, f10⟩ := cells11 (blk_below HG3.out HBC.out); obtain ⟨x0, x1, x2, x3, x4, x5, x6, x7, x8, x9, x10⟩ := cells11 (blk_below HX3.out HBC.out))))
  all_goals go_wp2_with (first
    | (go_at_call 14; ((with_reducible refine (RR.out _ _ _ (Kd.C_below HC3.out (by first | exact HBC.out | exact below_drew HBC.out | exact pw_below_drewN HBC.out _)) HD.out).mono ?_); rintro e w5 ⟨rfl, hb⟩; have HBC' := Aside0.mk (below_step (by first | exact HBC.out | exact below_drew HBC.out | exact pw_below_drewN HBC.out _) hb); clear hb HBC f0 f1 f2 f3 f4 f5 f6 f7 f8 f9 f10 x0 x1 x2 x3 x4 x5 x6 x7 x8 x9 x10; have HBC := HBC'; clear HBC'; obtain ⟨f0, f1, f2, f3, f4, f5, f6, f7, f8, f9, f10⟩ := cells11 (blk_below HG3.out HBC.out); obtain ⟨x0, x1, x2, x3, x4, x5, x6, x7, x8, x9, x10⟩ := cells11 (blk_below HX3.out HBC.out)))
    | (go_at_call 15; go_loud ((with_reducible refine (DEC.out _ _ _ _ (HBY.out.below (by first | exact HBC.out | exact below_drew HBC.out | exact pw_below_drewN HBC.out _)) hcl).mono ?_); rintro e w6 ⟨A6, c6, rfl, hC6, hc6, hb⟩; have HBC' := Aside0.mk (below_step (by first | exact HBC.out | exact below_drew HBC.out | exact pw_below_drewN HBC.out _) hb); clear hb HBC f0 f1 f2 f3 f4 f5 f6 f7 f8 f9 f10 x0 x1 x2 x3 x4 x5 x6 x7 x8 x9 x10; have HBC := HBC'; clear HBC'; obtain ⟨f0, f1, f2, f3, f4, f5, f6, f7, f8, f9, f10⟩ := cells11 (blk_below HG3.out HBC.out); obtain ⟨x0, x1, x2, x3, x4, x5, x6, x7, x8, x9, x10⟩ := cells11 (blk_below HX3.out HBC.out); have HQ6 := Aside0.mk hC6; clear hC6; have g3 := World.block_lt_of_cell? w6 _ f0; dsimp only at g3; have g4 := World.block_lt_of_cell? w6 _ x0; dsimp only at g4))
    | (go_at_call 17; go_loud ((with_reducible refine (RENC.out _ _ _ (Kd.C_below HC3.out (below_alloc HBC.out _)) HD.out).mono ?_); rintro e w7 ⟨g7, c7, rfl, hby7, hc7, hb⟩; have HBC' := Aside0.mk (below_step (below_alloc HBC.out _) hb); have HQ7 := Aside0.mk (Kd.C_below (Kd.C_alloc HQ6.out _) hb); have HQX := Aside0.mk (blk_below (blk_new w6 _) hb); have HBY7 := Aside0.mk hby7; have HBQ := Aside0.mk (Below.refl w7.heap.size w7); clear hb HBC hby7 f0 f1 f2 f3 f4 f5 f6 f7 f8 f9 f10 x0 x1 x2 x3 x4 x5 x6 x7 x8 x9 x10; have HBC := HBC'; clear HBC'; obtain ⟨f0, f1, f2, f3, f4, f5, f6, f7, f8, f9, f10⟩ := cells11 (blk_below HG3.out HBC.out); obtain ⟨x0, x1, x2, x3, x4, x5, x6, x7, x8, x9, x10⟩ := cells11 (blk_below HX3.out HBC.out); obtain ⟨q0, q1, q2, q3, q4, q5, q6, q7, q8, q9, q10⟩ := cells11 HQX.out))
    | (go_at_call 16; go_loud ((first | (with_reducible refine (SAME.out _ _ _ _ _ (HBY.out.below (by first | exact HBC.out | exact below_drew HBC.out | exact pw_below_drewN HBC.out _)) hcl (HBY7.out.below (by first | exact HBQ.out | exact below_drew HBQ.out | exact pw_below_drewN HBQ.out _)) hc7).mono ?_) | (with_reducible refine (SAME.out _ _ _ _ _ (HBY7.out.below (by first | exact HBQ.out | exact below_drew HBQ.out | exact pw_below_drewN HBQ.out _)) hc7 (HBY.out.below (by first | exact HBC.out | exact below_drew HBC.out | exact pw_below_drewN HBC.out _)) hcl).mono ?_)); rintro e w8 ⟨rfl, ⟨nd, rfl⟩⟩; have HBC' := Aside0.mk (pw_below_drewN HBC.out nd); have HBQ' := Aside0.mk (pw_below_drewN HBQ.out nd); clear HBC HBQ f0 f1 f2 f3 f4 f5 f6 f7 f8 f9 f10 x0 x1 x2 x3 x4 x5 x6 x7 x8 x9 x10 q0 q1 q2 q3 q4 q5 q6 q7 q8 q9 q10; have HBC := HBC'; have HBQ := HBQ'; clear HBC' HBQ'; obtain ⟨f0, f1, f2, f3, f4, f5, f6, f7, f8, f9, f10⟩ := cells11 (blk_below HG3.out HBC.out); obtain ⟨x0, x1, x2, x3, x4, x5, x6, x7, x8, x9, x10⟩ := cells11 (blk_below HX3.out HBC.out); obtain ⟨q0, q1, q2, q3, q4, q5, q6, q7, q8, q9, q10⟩ := cells11 (blk_below HQX.out HBQ.out)))
    | (go_at_call 18; go_loud ((with_reducible refine (SPK.out _ _ _ (Kd.C_below HR.out (below_step HB3.out (by first | exact HBC.out | exact below_drew HBC.out | exact pw_below_drewN HBC.out _))) (Kd.C_below HQ7.out (by first | exact HBQ.out | exact below_drew HBQ.out | exact pw_below_drewN HBQ.out _)) hc6).mono ?_); rintro e w9 ⟨rfl, hb9⟩; have HB9 := Aside0.mk (below_step HB3.out (below_step HBC.out hb9)); clear hb9)))
  all_goals go_ret
  all_goals exact ⟨rfl, HB9.out⟩
theorem encodes_out (a0 a1 a2 a3 a4 a5 a6 a7 a8 a9 : Int) (A : Option Addr) (c : Nat) (l : List S48) (n : Nat) (hn : l.length = n) (w : World) (hr : Kd.C k48 w A n l) (hc : n ≤ c) (hn20 : 20 < n) : Calls Try.prog 3 #[.agg #[.int .i64 a0, .int .i64 a1, .int .i64 a2, .int .i64 a3, .int .i64 a4, .int .u64 a5, .int .i64 a6, .int .i64 a7, .int .i64 a8, .int .u64 a9, .slice A n c]] w fun e w' => e = .returned (.bool true) ∧ Below w.heap.size w w' := by
  have hm := hr.2.1
  clear hr
  go_enter Try.func3, Try.ntmps3
  go_wp2_with (first
    | (go_at_call 10; go_loud (refine (anchor_c _).mono ?_; rintro e w1 ⟨rfl, hb⟩; have HB1 := Aside0.mk (below_step (below_alloc (Below.refl _ _) _) hb); have HG := Aside0.mk (blk_below (blk_new w _) hb); clear hb; obtain ⟨f0, f1, f2, f3, f4, f5, f6, f7, f8, f9, f10⟩ := cells11 HG.out; have gl := World.block_lt_of_cell? w1 _ f0; dsimp only at gl)))
  go_ret
  exact ⟨rfl, HB1.out⟩
theorem encodes_calls (a0 a1 a2 a3 a4 a5 a6 a7 a8 a9 : Int) (A : Option Addr) (c : Nat) (l : List S48) (w : World) (hr : Kd.C k48 w A l.length l) (hc : l.length ≤ c) (h5 : 0 ≤ a5 ∧ a5 < 18446744073709551616) (h9 : 0 ≤ a9 ∧ a9 < 18446744073709551616) :
    Calls Try.prog 3 #[.agg #[.int .i64 a0, .int .i64 a1, .int .i64 a2, .int .i64 a3, .int .i64 a4, .int .u64 a5, .int .i64 a6, .int .i64 a7, .int .i64 a8, .int .u64 a9, .slice A l.length c]] w fun e w' => e = .returned (.bool true) ∧ Below w.heap.size w w' := by
  by_cases h : l.length ≤ 20
  · cases ha : rightB a0 a1 a2 a3 a4 a5 a6 a7 a8 a9 l with
    | true => exact encodes_yes a0 a1 a2 a3 a4 a5 a6 a7 a8 a9 A c l _ rfl w hr hc h h5 h9 ha _ rfl
    | false => exact encodes_no a0 a1 a2 a3 a4 a5 a6 a7 a8 a9 A c l _ rfl w hr hc h h5 h9 ha
  · exact encodes_out a0 a1 a2 a3 a4 a5 a6 a7 a8 a9 A c l _ rfl w hr hc (by omega)
end Go.Proofs.Ytldiipomcenbkaa.Qw
