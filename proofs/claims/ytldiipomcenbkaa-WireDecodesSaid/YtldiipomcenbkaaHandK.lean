/- The document's Decode of bytes whose frame is right, by hand. -/
import Derived.Test.YtldiipomcenbkaaHandJ
import Derived.BigRegion
import Derived.Deep.RegionLaw
namespace Go.Proofs.Ytldiipomcenbkaa.Qw
open Go.RowKit Go.Proofs.YtldiipomcenbkaaW.PrintWords Go.Proofs.YtldiipomcenbkaaW.PrintLast Go.Proofs.YtldiipomcenbkaaW.PrintMore
open HandS (Bytes byte_at add_block)
set_option linter.unusedVariables false
set_option linter.unusedSimpArgs false
attribute [local go_sem ↓] Go.wp_at_zero Go.wp_at_succ
set_option maxRecDepth 100000 in
set_option maxHeartbeats 8000000 in
theorem rdecode_ok (a : Option Addr) (cap len : Nat) (l : List Nat) (w : World) (hl : Bytes w a len l) (hc : len ≤ cap) (hF : frameN l = 0) (r : Bool) (hrt : rightD l = r) :
    Calls Try.prog 19 #[.slice a len cap] w (DecPost49 r l w) := by
  have HRT := Aside0.mk hrt
  clear hrt
  obtain ⟨h1, h2, h3, h4, -, -, -, -⟩ := frame_ok hF
  have hll := hl.1
  have hmax := hl.2.1
  obtain ⟨m, hm⟩ : ∃ m, l.getD 76 0 = m := ⟨_, rfl⟩
  rw [hm] at h1 h2
  have hle : len = 79 + 9 * m := by omega
  have HL := Aside0.mk hl
  have HF := Aside0.mk hF
  obtain ⟨ad, rfl, k3⟩ := hl.at (i := 3) (by omega)
  obtain ⟨_, ha, k76⟩ := hl.at (i := 76) (by omega); cases ha
  rw [show ad.add 3 = ⟨ad.block, ad.off + 3, none⟩ from rfl] at k3
  rw [show ad.add 76 = ⟨ad.block, ad.off + 76, none⟩ from rfl] at k76
  obtain ⟨x3, e3⟩ : ∃ x, l.getD 3 0 = x := ⟨_, rfl⟩
  rw [e3] at k3 h3 h4
  rw [hm] at k76
  have HM := Aside0.mk hm
  have E3 := Aside0.mk e3
  have HLE := Aside0.mk hle
  have hlen79 : 79 ≤ len := by omega
  have K3 := Aside0.mk k3
  have K76 := Aside0.mk k76
  clear hl hF hm e3 hle h1 hll k3 k76
  go_enter Try.func19, Try.ntmps19
  go_wp2_with (go_at_call 34; go_loud (refine (rframe_c (some ad) cap len l _ (HL.out.below (Below.alloc (Below.refl _ _) (Nat.le_refl _) _)) hc).mono ?_; rintro e w1 ⟨rfl, hb⟩; rw [HF.out, show ((0 : Nat) : Int) = 0 from rfl]; have HG := Aside0.mk (blk_below (blk_new w _) hb); have HB1 := Aside0.mk (below_step (below_alloc (Below.refl _ _) _) hb); clear hb))
  go_loopw [6] (fun i wr => ∃ j : Nat, j ≤ 9 ∧ i = .int .i64 j ∧ Na w1 wr w1.heap.size l j) (fun i _ => 9 - (intOf i).toNat)
  case atStart => exact ⟨0, by omega, rfl, na_new w1 l⟩
  case round =>
    obtain ⟨j, hj, rfl, hN⟩ := hrel
    have HN := Aside0.mk hN
    clear hN
    by_cases hlt : j < 9
    · have hlt2 : (j : Int) < 9 := by omega
      have hbb := HB1.out.trans (HN.out.bel.mono HB1.out.size)
      have HNUM := Aside0.mk (number_c (some ad) cap len l (4 + 8 * j) wr (HL.out.below hbb) (by omega) hc)
      rw [show ((4 + 8 * j : Nat) : Int) = 4 + 8 * (j : Int) by omega] at HNUM
      have h1 := HN.out.cells j hlt
      rw [if_neg (Nat.lt_irrefl j)] at h1
      have f1 := HN.out.free j
      have HN2 := Aside0.mk (HN.out.set hlt)
      have HFD := Aside0.mk (show num8 (l.drop (4 + 8 * j)) = fld l j from rfl)
      have hwr := fun (h4 : j ≠ 4) (h8 : j ≠ 8) (hb : 9223372036854775807 < fld l j) => HRT.out.symm.trans (wrong_fld HL.out.2.2.1 j hlt h4 h8 hb)
      have h2 := HN2.out.cells j hlt
      rw [if_pos (Nat.lt_succ_self j)] at h2
      obtain ⟨n, hn⟩ : ∃ n, fld l j = n := ⟨_, rfl⟩
      rw [hn] at HN2 HFD hwr h2
      rw [HFD.out] at HNUM
      have HWR := Aside0.mk hwr
      clear hn hwr HFD hbb
      have H2 := Aside0.mk h2
      clear h2
      go_upto_region 9 with (go_at_call 35; go_loud (refine HNUM.out.mono ?_; rintro e w2 ⟨rfl, rfl⟩))
      obtain ⟨we, hwe⟩ : ∃ we, we = w2.setCell ⟨w1.heap.size, j, none⟩ (.int .u64 n) := ⟨_, rfl⟩
      rw [← hwe] at HN2 H2 ⊢
      clear hwe HNUM HN h1 f1
      have h2 := H2.out
      obtain ⟨z0, z1, z2, z3, z4, z5, z6, z7, z8, z9, z10⟩ := cells11 (blk_below HG.out HN2.out.bel)
      have fz : ∀ i, we.frozen? ⟨w.heap.size, i, none⟩ = false := fun i => blk_frozen (blk_below HG.out HN2.out.bel) i
      by_cases hbad : 9223372036854775807 < n
      · have b1 : (9223372036854775807 : Int) < (n : Int) := by omega
        by_cases h4 : j = 4
        · subst h4
          go_wp2
          exact ⟨⟨4 + 1, by omega, by go_num, HN2.out⟩, by simp [intOf]⟩
        · by_cases h8 : j = 8
          · subst h8
            go_wp2
            exact ⟨⟨8 + 1, by omega, by go_num, HN2.out⟩, by simp [intOf]⟩
          · have hr := HWR.out h4 h8 hbad
            have b4 : ((j : Int) != 4) = true := bne_iff_ne.mpr (by omega)
            have b8 : ((j : Int) != 8) = true := bne_iff_ne.mpr (by omega)
            have HR2 := Aside0.mk hr
            clear hr H2 HWR
            go_wp2
            refine bodyPost_ret (v := .tuple #[zeroP, .int .i64 10]) (by unfold zeroP; simp [results, Try.results19, go_sem, z0, z1, z2, z3, z4, z5, z6, z7, z8, z9, z10]) rfl ?_
            rw [HR2.out]
            refine ⟨rfl, ?_⟩
            have HBF := Aside0.mk (HB1.out.trans (HN2.out.bel.mono HB1.out.size))
            repeat (with_reducible first | exact HBF.out | (refine below_set ?_ (Nat.le_refl _)))
      · have b1 : ¬ (9223372036854775807 : Int) < (n : Int) := by omega
        go_wp2
        exact ⟨⟨j + 1, by omega, by go_num, HN2.out⟩, by simp [intOf]; omega⟩
    · obtain rfl : j = 9 := by omega
      go_upto_region 11 with fail
      obtain ⟨g5, hg5⟩ : ∃ g5, w1.heap.size = g5 := ⟨_, rfl⟩
      rw [hg5] at HN ⊢
      have c0 := HN.out.cells 0 (by decide)
      rw [if_pos (by decide)] at c0
      obtain ⟨m0, hm0⟩ : ∃ n, fld l 0 = n := ⟨_, rfl⟩
      rw [hm0] at c0
      have HM0 := Aside0.mk hm0
      clear hm0
      have c1 := HN.out.cells 1 (by decide)
      rw [if_pos (by decide)] at c1
      obtain ⟨m1, hm1⟩ : ∃ n, fld l 1 = n := ⟨_, rfl⟩
      rw [hm1] at c1
      have HM1 := Aside0.mk hm1
      clear hm1
      have c2 := HN.out.cells 2 (by decide)
      rw [if_pos (by decide)] at c2
      obtain ⟨m2, hm2⟩ : ∃ n, fld l 2 = n := ⟨_, rfl⟩
      rw [hm2] at c2
      have HM2 := Aside0.mk hm2
      clear hm2
      have c3 := HN.out.cells 3 (by decide)
      rw [if_pos (by decide)] at c3
      obtain ⟨m3, hm3⟩ : ∃ n, fld l 3 = n := ⟨_, rfl⟩
      rw [hm3] at c3
      have HM3 := Aside0.mk hm3
      clear hm3
      have c4 := HN.out.cells 4 (by decide)
      rw [if_pos (by decide)] at c4
      obtain ⟨m4, hm4⟩ : ∃ n, fld l 4 = n := ⟨_, rfl⟩
      rw [hm4] at c4
      have HM4 := Aside0.mk hm4
      clear hm4
      have c5 := HN.out.cells 5 (by decide)
      rw [if_pos (by decide)] at c5
      obtain ⟨m5, hm5⟩ : ∃ n, fld l 5 = n := ⟨_, rfl⟩
      rw [hm5] at c5
      have HM5 := Aside0.mk hm5
      clear hm5
      have c6 := HN.out.cells 6 (by decide)
      rw [if_pos (by decide)] at c6
      obtain ⟨m6, hm6⟩ : ∃ n, fld l 6 = n := ⟨_, rfl⟩
      rw [hm6] at c6
      have HM6 := Aside0.mk hm6
      clear hm6
      have c7 := HN.out.cells 7 (by decide)
      rw [if_pos (by decide)] at c7
      obtain ⟨m7, hm7⟩ : ∃ n, fld l 7 = n := ⟨_, rfl⟩
      rw [hm7] at c7
      have HM7 := Aside0.mk hm7
      clear hm7
      have c8 := HN.out.cells 8 (by decide)
      rw [if_pos (by decide)] at c8
      obtain ⟨m8, hm8⟩ : ∃ n, fld l 8 = n := ⟨_, rfl⟩
      rw [hm8] at c8
      have HM8 := Aside0.mk hm8
      clear hm8
      obtain ⟨v0, hw0⟩ : ∃ v, IntKind.i64.wrap (m0 : Int) = v := ⟨_, rfl⟩
      have HV0 := Aside0.mk hw0
      obtain ⟨v1, hw1⟩ : ∃ v, IntKind.i64.wrap (m1 : Int) = v := ⟨_, rfl⟩
      have HV1 := Aside0.mk hw1
      obtain ⟨v2, hw2⟩ : ∃ v, IntKind.i64.wrap (m2 : Int) = v := ⟨_, rfl⟩
      have HV2 := Aside0.mk hw2
      obtain ⟨v3, hw3⟩ : ∃ v, IntKind.i64.wrap (m3 : Int) = v := ⟨_, rfl⟩
      have HV3 := Aside0.mk hw3
      obtain ⟨v5, hw5⟩ : ∃ v, IntKind.i64.wrap (m5 : Int) = v := ⟨_, rfl⟩
      have HV5 := Aside0.mk hw5
      obtain ⟨v6, hw6⟩ : ∃ v, IntKind.i64.wrap (m6 : Int) = v := ⟨_, rfl⟩
      have HV6 := Aside0.mk hw6
      obtain ⟨v7, hw7⟩ : ∃ v, IntKind.i64.wrap (m7 : Int) = v := ⟨_, rfl⟩
      have HV7 := Aside0.mk hw7
      have hw9 : IntKind.i64.wrap (x3 : Int) = x3 := by rw [HandC.wrap_i64]; omega
      have hbw := HB1.out.trans (HN.out.bel.mono HB1.out.size)
      have k3 := (hbw.cell (World.block_lt_of_cell? w _ K3.out)).trans K3.out
      have HBW := Aside0.mk hbw
      have l4 : (3 : Int) < len := by omega
      have gl5 := World.block_lt_of_cell? wr _ c0
      have gl3 := World.block_lt_of_cell? wr _ k3
      dsimp only at gl5 gl3
      clear hbw hg5
      go_region_held3 (fun w' => w'.cell? ⟨ad.block, ad.off + 3, none⟩ = some (.int .u8 x3) ∧ w'.cell? ⟨g5, 0, none⟩ = some (.int .u64 m0) ∧ w'.cell? ⟨g5, 1, none⟩ = some (.int .u64 m1) ∧ w'.cell? ⟨g5, 2, none⟩ = some (.int .u64 m2) ∧ w'.cell? ⟨g5, 3, none⟩ = some (.int .u64 m3) ∧ w'.cell? ⟨g5, 4, none⟩ = some (.int .u64 m4) ∧ w'.cell? ⟨g5, 5, none⟩ = some (.int .u64 m5) ∧ w'.cell? ⟨g5, 6, none⟩ = some (.int .u64 m6) ∧ w'.cell? ⟨g5, 7, none⟩ = some (.int .u64 m7) ∧ w'.cell? ⟨g5, 8, none⟩ = some (.int .u64 m8)) (go_keep) (fail)
      have k76 := (HBW.out.cell (World.block_lt_of_cell? w _ K76.out)).trans K76.out
      clear hw0 hw1 hw2 hw3 hw5 hw6 hw7 hw9
      clear c0 c1 c2 c3 c4 c5 c6 c7 c8 k3
      go_wp2
      obtain ⟨gP, hgP⟩ : ∃ gP, wr.heap.size = gP := ⟨_, rfl⟩
      obtain ⟨we, hwe⟩ : ∃ we, we = (wr.alloc (.cells #[.int .i64 x3, .int .i64 v0, .int .i64 v1, .int .i64 v2, .int .i64 v3, .int .u64 m4, .int .i64 v5, .int .i64 v6, .int .i64 v7, .int .u64 m8, .slice none 0 0] 30)).drew := ⟨_, rfl⟩
      have HP := Aside0.mk (show we.heap[gP]? = some (.cells #[.int .i64 x3, .int .i64 v0, .int .i64 v1, .int .i64 v2, .int .i64 v3, .int .u64 m4, .int .i64 v5, .int .i64 v6, .int .i64 v7, .int .u64 m8, .slice none 0 0] 30 (0, 0)) by rw [hwe, ← hgP]; exact blk_drew (blk_new wr _))
      have HBE := Aside0.mk (show Below w1.heap.size w1 we by rw [hwe]; exact below_drew (HN.out.bel.alloc HN.out.bel.size _))
      have HGP := Aside0.mk (show w1.heap.size ≤ gP from hgP ▸ HN.out.bel.size)
      rw [← hwe, hgP]
      clear hwe hgP HN k76 gl5 gl3
      go_loopw [8] (fun i wr => PsRel49 w1 gP #[.int .i64 x3, .int .i64 v0, .int .i64 v1, .int .i64 v2, .int .i64 v3, .int .u64 m4, .int .i64 v5, .int .i64 v6, .int .i64 v7, .int .u64 m8] l m i wr) (fun i _ => m - (intOf i).toNat)
      case atStart => exact ⟨0, _, Nat.zero_le _, rfl, HP.out, World.ownsRow_nil _ _ _ _, HBE.out⟩
      case round =>
        clear HP HBE
        obtain ⟨k, v, hk, rfl, hP, hO, hB⟩ := hrel
        have HP := Aside0.mk hP
        have HO := Aside0.mk hO
        have HB := Aside0.mk hB
        clear hP hO hB
        have HBW2 := Aside0.mk (HB1.out.trans (HB.out.mono HB1.out.size))
        have k76 := (HBW2.out.cell (World.block_lt_of_cell? w _ K76.out)).trans K76.out
        have lad0 := World.block_lt_of_cell? wr _ k76
        dsimp only at lad0
        have hm3 : (m : Int) ≤ 3 := by omega
        have l76 : (76 : Int) < len := by omega
        by_cases hlt : k < m
        · have hlt2 : (k : Int) < m := by omega
          have HNUM := Aside0.mk (number_c (some ad) cap len l (77 + 9 * k) wr (HL.out.below HBW2.out) (by have := HLE.out; omega) hc)
          rw [show ((77 + 9 * k : Nat) : Int) = 77 + 9 * (k : Int) by omega] at HNUM
          have h85 := (Bytes.at (HL.out.below HBW2.out) (i := 85 + 9 * k) (by have := HLE.out; omega))
          obtain ⟨_, ha, hy⟩ := h85
          cases ha
          have zy := byte_at HL.out.2.2.1 (85 + 9 * k)
          have hwr := fun (hb : 9223372036854775807 < num8 (l.drop (77 + 9 * k))) => HRT.out.symm.trans (wrong_ent HL.out.2.2.1 k (by rw [HM.out]; exact hlt) hb)
          obtain ⟨y, ey⟩ : ∃ y, l.getD (85 + 9 * k) 0 = y := ⟨_, rfl⟩
          obtain ⟨n, en⟩ : ∃ n, num8 (l.drop (77 + 9 * k)) = n := ⟨_, rfl⟩
          obtain ⟨x, ex⟩ : ∃ x, IntKind.i64.wrap (n : Int) = x := ⟨_, rfl⟩
          have hent : entAt l k = ⟨x, (y : Nat)⟩ := by unfold entAt i64; rw [en, ey, ex]
          rw [ey] at hy zy
          rw [en] at hwr HNUM
          have HWR := Aside0.mk hwr
          have HENT := Aside0.mk hent
          obtain ⟨q, hq⟩ : ∃ q, 85 + 9 * k = q := ⟨_, rfl⟩
          have b1 : (0 : Int) ≤ 85 + 9 * (k : Int) := by omega
          have b2 : (85 : Int) + 9 * (k : Int) < len := by have := HLE.out; omega
          have b3 : ((85 : Int) + 9 * (k : Int)).toNat = q := by omega
          have f10 := blk_cell HP.out 10
          have f10' : wr.cell? ⟨gP, 10, none⟩ = some v := f10.trans rfl
          have fz := blk_frozen HP.out 10
          rw [hq] at hy
          have HEX := Aside0.mk ex
          obtain ⟨z0, z1, z2, z3, z4, z5, z6, z7, z8, z9, z10⟩ := cells11 (blk_below HG.out HB.out)
          have gz : ∀ i, wr.frozen? ⟨w.heap.size, i, none⟩ = false := fun i => blk_frozen (blk_below HG.out HB.out) i
          clear ey en hent f10 hwr hq ex
          by_cases hbad : 9223372036854775807 < n
          · have b4 : (9223372036854775807 : Int) < (n : Int) := by omega
            have HR2 := Aside0.mk (HWR.out hbad)
            go_wp2_with (go_at_call 35; go_loud (refine HNUM.out.mono ?_; rintro e w2 ⟨rfl, rfl⟩))
            refine bodyPost_ret (v := .tuple #[zeroP, .int .i64 10]) (by unfold zeroP; simp [results, Try.results19, go_sem, z0, z1, z2, z3, z4, z5, z6, z7, z8, z9, z10]) rfl ?_
            rw [HR2.out]
            refine ⟨rfl, ?_⟩
            have HBF := Aside0.mk HBW2.out
            repeat (with_reducible first | exact HBF.out | (refine below_set ?_ (Nat.le_refl _)))
          · have b4 : ¬ (9223372036854775807 : Int) < (n : Int) := by omega
            clear z0 z1 z2 z3 z4 z5 z6 z7 z8 z9 z10 gz
            go_upto_region 18 with (go_at_call 35; go_loud (refine HNUM.out.mono ?_; rintro e w2 ⟨rfl, rfl⟩))
            have hwn : IntKind.i64.wrap (y : Int) = y := by rw [HandC.wrap_i64]; omega
            have hwx := HEX.out
            have hw9 : IntKind.i64.wrap ((9 : Int) * (k : Int)) = 9 * (k : Int) := by rw [HandC.wrap_i64]; omega
            have hw85 : IntKind.i64.wrap ((85 : Int) + 9 * (k : Int)) = (q : Int) := by rw [HandC.wrap_i64]; omega
            have b5 : (0 : Int) ≤ (q : Int) := by omega
            have b6 : (q : Int) < len := by omega
            have b7 : ((q : Int)).toNat = q := by omega
            clear b1 b2 b3
            have lad := World.block_lt_of_cell? w2 _ hy
            have lgp := World.block_lt_of_cell? w2 _ f10'
            rw [HandS.add_block] at lad
            dsimp only at lgp
            clear k76 lad0 HNUM HWR hbad b4 zy
            go_region_law (first
              | (refine append_ent49 (w1 := w1) (by rfl) _ _ (by rfl) gP v (by rfl) (by have := HO.out.alloc (.cells #[.int .i64 x, .int .i64 (y : Int)] 49); exact this) (by first | exact below_drew (HB.out.alloc HB.out.size _) | exact HB.out.alloc HB.out.size _ | exact (below_drew HB.out).alloc HB.out.size _) w2.heap.size (by rfl) (by first | exact blk_drew (blk_new w2 _) | exact blk_new w2 _) HGP.out (by simp; omega) (by omega) ?_; intro g3 c3 w3 ho hb hq; have hq2 := hq.trans (by first | exact blk_drew (blk_alloc HP.out _) | exact blk_alloc HP.out _); have q10 : w3.cell? ⟨gP, 10, none⟩ = some v := (blk_cell hq2 10).trans rfl; have qz := blk_frozen hq2 10; have HO3 := Aside0.mk ho; have HB3 := Aside0.mk hb; have HQ3 := Aside0.mk hq2; clear ho hb hq hq2))
            all_goals (clear hwn hwx hw9 hw85 b7; go_wp2)
            all_goals
              have hent := entCells_succ l k x y HENT.out
              refine ⟨⟨k + 1, _, by omega, by go_num, blk_set HQ3.out 10 _, ?_, below_set HB3.out HGP.out⟩, by simp [intOf]; omega⟩
              rw [hent]
              exact own_move HO3.out (fun j hj => Below.heap_setCell _ _ _ _ (show j ≠ gP from fun e => by have := own_base HO3.out j hj; omega))
        · have hkm : k = m := by omega
          subst hkm
          have hR := ents_R49 HO.out HM.out
          obtain ⟨A, c, hv, hAc, hC⟩ := Kd.R_reads hR
          rw [List.length_map] at hv hAc hC
          subst hv
          have hsl : (secOf l).length = k := by unfold secOf; rw [List.length_map, List.length_range, HM.out]
          have hrt := HRT.out
          unfold rightD at hrt
          rw [E3.out, HM0.out, HM1.out, HM2.out, HM3.out, HM4.out, HM5.out, HM6.out, HM7.out, HM8.out] at hrt
          unfold i64 at hrt
          rw [HV0.out, HV1.out, HV2.out, HV3.out, HV5.out, HV6.out, HV7.out] at hrt
          have RC := Aside0.mk (rright_c x3 v0 v1 v2 v3 m4 v5 v6 v7 m8 A c (secOf l) _ rfl wr hC hAc (by omega) (by omega) (by omega))
          rw [hrt] at RC
          have HRR := Aside0.mk hR
          obtain ⟨f0, f1, f2, f3, f4, f5, f6, f7, f8, f9, f10⟩ := cells11 HP.out
          have HG2 := Aside0.mk (blk_below HG.out HB.out)
          clear hR hC hAc hrt hlt hk hsl
          cases r with
          | true =>
            go_wp2_with (go_at_call 14; go_loud (refine RC.out.mono ?_; rintro e w2 ⟨rfl, hb⟩; have HG3 := Aside0.mk (blk_below HG2.out hb); have HP3 := Aside0.mk (blk_below HP.out hb); have HO3 := Aside0.mk (own_move HO.out (fun j hj => hb.block j (own_lt HO.out j hj))); have HB3 := Aside0.mk (HB.out.trans (hb.mono HB.out.size)); obtain ⟨q0, q1, q2, q3, q4, q5, q6, q7, q8, q9, q10⟩ := cells11 HP3.out; obtain ⟨z0, z1, z2, z3, z4, z5, z6, z7, z8, z9, z10⟩ := cells11 HG3.out; have fz : ∀ i, w2.frozen? ⟨w.heap.size, i, none⟩ = false := fun i => blk_frozen HG3.out i; clear hb))
            refine bodyPost_ret (v := .tuple #[.agg #[.int .i64 (x3 : Nat), .int .i64 v0, .int .i64 v1, .int .i64 v2, .int .i64 v3, .int .u64 (m4 : Nat), .int .i64 v5, .int .i64 v6, .int .i64 v7, .int .u64 (m8 : Nat), .slice A (secOf l).length c], .int .i64 0]) (by simp [results, Try.results19, go_sem, z0, z1, z2, z3, z4, z5, z6, z7, z8, z9, z10]) rfl ?_
            clear RC HRR HG2 q0 q1 q2 q3 q4 q5 q6 q7 q8 q9 q10 z0 z1 z2 z3 z4 z5 z6 z7 z8 z9 z10 fz
            refine ⟨.slice A (secOf l).length c, ?_, ?_, ?_⟩
            · rw [E3.out, HM0.out, HM1.out, HM2.out, HM3.out, HM4.out, HM5.out, HM6.out, HM7.out, HM8.out]
              unfold i64
              rw [HV0.out, HV1.out, HV2.out, HV3.out, HV5.out, HV6.out, HV7.out]
            · refine Kd.R_lower (ents_R49 (own_move HO3.out (fun j hj => ?_)) HM.out) (by have := HB1.out.size; have := HGP.out; omega)
              have hne : j ≠ w.heap.size := by have := own_base HO3.out j hj; have := HB1.out.size; have := HGP.out; omega
              repeat (with_reducible first | rfl | refine (Below.heap_setCell _ _ _ _ hne).trans ?_)
            · have HBF := Aside0.mk (HB1.out.trans (HB3.out.mono HB1.out.size))
              repeat (with_reducible first | exact HBF.out | (refine below_set ?_ (Nat.le_refl _)))
          | false =>
            go_wp2_with (go_at_call 14; go_loud (refine RC.out.mono ?_; rintro e w2 ⟨rfl, hb⟩; have HG3 := Aside0.mk (blk_below HG2.out hb); have HP3 := Aside0.mk (blk_below HP.out hb); have HO3 := Aside0.mk (own_move HO.out (fun j hj => hb.block j (own_lt HO.out j hj))); have HB3 := Aside0.mk (HB.out.trans (hb.mono HB.out.size)); obtain ⟨q0, q1, q2, q3, q4, q5, q6, q7, q8, q9, q10⟩ := cells11 HP3.out; obtain ⟨z0, z1, z2, z3, z4, z5, z6, z7, z8, z9, z10⟩ := cells11 HG3.out; have fz : ∀ i, w2.frozen? ⟨w.heap.size, i, none⟩ = false := fun i => blk_frozen HG3.out i; clear hb))
            refine bodyPost_ret (v := .tuple #[zeroP, .int .i64 10]) (by unfold zeroP; simp [results, Try.results19, go_sem, z0, z1, z2, z3, z4, z5, z6, z7, z8, z9, z10]) rfl ⟨rfl, ?_⟩
            have HBF := Aside0.mk (HB1.out.trans (HB3.out.mono HB1.out.size))
            repeat (with_reducible first | exact HBF.out | (refine below_set ?_ (Nat.le_refl _)))
end Go.Proofs.Ytldiipomcenbkaa.Qw
