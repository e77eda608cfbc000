/- WireOwn by hand: what is handed in isn't kept. -/
import Derived.Test.YtldiipomcenbkaaOwnWireCuts
namespace Go.Proofs.Ytldiipomcenbkaa.Qw
open Go.RowKit Go.Proofs.YtldiipomcenbkaaW.PrintWords Go.Proofs.YtldiipomcenbkaaW.PrintLast Go.Proofs.YtldiipomcenbkaaW.PrintMore
open HandS (Bytes byte_at add_block Near)
set_option linter.unusedVariables false
set_option linter.unusedSimpArgs false
theorem R48_nil {W : World} {b g : Nat} (hg : W.heap[g]? = some (.cells #[] 48 (0, 0))) (hb : b ≤ g) : Kd.R k48 48 W b (fun _ => True) (.slice (some ⟨g, 0, none⟩) 0 0) [] :=
  ⟨fun _ _ => trivial, [], ⟨rfl, .inr ⟨g, 0, _, rfl, hb, hg, Nat.le_refl _, by decide, rfl, rfl⟩⟩, Reps.none _ _⟩
theorem R48_form {W : World} {b n : Nat} {v : Value} {xs : List S48} (h : Kd.R k48 48 W b (fun _ => True) v xs) (hn : xs.length = n) (h0 : 0 < n) : ∃ g c cur, v = .slice (some ⟨g, 0, none⟩) n c ∧ W.heap[g]? = some (.cells cur 48 (0, 0)) ∧ 2 * n ≤ cur.size ∧ b ≤ g := by
  obtain ⟨_, inner, hown, hreps⟩ := h
  rw [hn] at hown
  rcases hown.2 with ⟨rfl, h1⟩ | ⟨g, cap, cur, rfl, hb, hg, h1, h2, h3, h4⟩
  · omega
  · refine ⟨g, cap, cur, rfl, hg, ?_, hb⟩
    rw [h3]
    show 2 * n ≤ cap * 2
    omega
theorem R48_far {W W' : World} {b : Nat} {v : Value} {xs : List S48} (h : Kd.R k48 48 W b (fun _ => True) v xs) (hk : ∀ k, b ≤ k → k < W.heap.size → W'.heap[k]? = W.heap[k]?) : Kd.R k48 48 W' b (fun _ => True) v xs :=
  Kd.R_mono (Kd.R_move (Kd.R_mono (Kd.R_bound h) (fun k hk => (⟨hk.2.1, hk.2.2.1⟩ : b ≤ k ∧ k < W.heap.size))) (fun k hk' => hk k hk'.1 hk'.2)) (fun _ _ => trivial)
theorem near_below {b B : Nat} {w0 w w' : World} (h : Near b w w') (h0 : Below B w0 w) (h1 : B ≤ b) (h2 : B ≤ w0.heap.size) : Below B w0 w' := h.to h0 h1 h2
def LoopA (wS : World) (g n : Nat) (i : Value) (wr : World) : Prop :=
  ∃ k : Nat, k ≤ n ∧ i = .int .i64 k ∧ Near g wS wr ∧ (0 < n → ∃ cur, wr.heap[g]? = some (.cells cur 48 (0, 0)) ∧ 2 * n ≤ cur.size)
def LoopB (wS : World) (g nn : Nat) (i : Value) (wr : World) : Prop :=
  ∃ (k : Nat) (xs : List Nat), k ≤ nn ∧ i = .int .i64 k ∧ Near g wS wr ∧ Bytes wr (some ⟨g, 0, none⟩) nn xs ∧ ∀ i, wr.frozen? ⟨g, i, none⟩ = false
set_option maxRecDepth 100000 in
set_option maxHeartbeats 8000000 in
theorem own_yes (a0 a1 a2 a3 a4 a5 a6 a7 a8 a9 : Int) (A : Option Addr) (c : Nat) (l : List S48) (n : Nat) (hn : l.length = n) (w : World) (hr : Kd.C k48 w A n l) (hc : n ≤ c) (hn20 : n ≤ 20) (hrt : rightB a0 a1 a2 a3 a4 a5 a6 a7 a8 a9 l = true) (h5 : 0 ≤ a5 ∧ a5 < 18446744073709551616) (h9 : 0 ≤ a9 ∧ a9 < 18446744073709551616) (nn : Nat) (hnn : 79 + 9 * n = nn) :
    Calls Try.prog 9 #[.agg #[.int .i64 a0, .int .i64 a1, .int .i64 a2, .int .i64 a3, .int .i64 a4, .int .u64 a5, .int .i64 a6, .int .i64 a7, .int .i64 a8, .int .u64 a9, .slice A n c]] w fun e w' => e = .returned (.bool true) ∧ Below w.heap.size w w' := by
  have R := right_of hrt
  have hn3 := R.len
  rw [hn] at hn3
  have hnn2 : nn ≤ 106 := by omega
  have hnn1 : 79 ≤ nn := by omega
  have hlt := encI_lt R
  have hlen := @encI_length a0 a1 a2 a3 a4 a5 a6 a7 a8 a9 l
  obtain ⟨bs, hbs⟩ : ∃ bs, encI a0 a1 a2 a3 a4 a5 a6 a7 a8 a9 l = bs := ⟨_, rfl⟩
  have DEC := Aside0.mk (fun W (a : Option Addr) (cp ln : Nat) (h : Bytes W a ln bs) (hc : ln ≤ cp) => decode_enc a0 a1 a2 a3 a4 a5 a6 a7 a8 a9 l hrt h5 h9 a cp ln W (by rw [hbs]; exact h) hc)
  rw [hbs] at hlt hlen
  rw [hn, hnn] at hlen
  have RC := Aside0.mk (fun W (h : Kd.C k48 W A n l) => right_c a0 a1 a2 a3 a4 a5 a6 a7 a8 a9 A c l W (by rw [hn]; exact h) (by omega) true hrt)
  rw [hn] at RC
  have ENC := Aside0.mk (fun W (X : Option Addr) (x : Nat) (h : Kd.C k48 W X n l) (hx : n ≤ x) => encode_r a0 a1 a2 a3 a4 a5 a6 a7 a8 a9 X x l W (by rw [hn]; exact h) (by omega) h5 h9 hrt bs hbs nn (by omega))
  rw [hn] at ENC
  have SPK := Aside0.mk (fun W (E : Option Addr) (d : Nat) (h1 : Kd.C k48 W A n l) (h2 : Kd.C k48 W E n l) (h3 : n ≤ d) => samePk_c a0 a1 a2 a3 a4 a5 a6 a7 a8 a9 A c l a0 a1 a2 a3 a4 a5 a6 a7 a8 a9 E d l n n hn hn W h1 hc h2 h3 true ⟨fun _ => ⟨rfl, rfl, rfl, rfl, rfl, rfl, rfl, rfl, rfl, rfl, rfl⟩, fun _ => rfl⟩)
  have HR := Aside0.mk hr
  have HN := Aside0.mk hn
  have HLT := Aside0.mk hlt
  have HLEN := Aside0.mk hlen
  clear hr hrt hn hlt hlen hbs h5 h9 hnn R
  go_enter Try.func9, Try.ntmps9
  go_wp2_with (first
    | (go_at_call 10; go_loud (refine (anchor_c _).mono ?_; rintro e w1 ⟨rfl, hb⟩; have HB1 := Aside0.mk (below_step (below_alloc (Below.refl _ _) _) hb); have HG := Aside0.mk (blk_below (blk_new w _) hb); clear hb; obtain ⟨f0, f1, f2, f3, f4, f5, f6, f7, f8, f9, f10⟩ := cells11 HG.out; have gl := World.block_lt_of_cell? w1 _ f0; dsimp only at gl))
    | (go_at_call 13; go_loud ((with_reducible refine (RC.out _ (Kd.C_below HR.out HB1.out)).mono ?_); rintro e w2 ⟨rfl, hb⟩; have HB2 := Aside0.mk (HB1.out.trans (hb.mono HB1.out.size)); have HG2 := Aside0.mk (blk_below HG.out hb); clear hb gl f0 f1 f2 f3 f4 f5 f6 f7 f8 f9 f10; obtain ⟨f0, f1, f2, f3, f4, f5, f6, f7, f8, f9, f10⟩ := cells11 HG2.out; have gl := World.block_lt_of_cell? w2 _ f0; dsimp only at gl))
    | (at_builtin; go_loud (refine Kd.R_append_rows k48 (Rr := k48.K ((w2.alloc (.cells #[.int .i64 a0, .int .i64 a1, .int .i64 a2, .int .i64 a3, .int .i64 a4, .int .u64 a5, .int .i64 a6, .int .i64 a7, .int .i64 a8, .int .u64 a9, .slice A n c] 26)).alloc (.cells #[] 48))) (w0 := w2.alloc (.cells #[.int .i64 a0, .int .i64 a1, .int .i64 a2, .int .i64 a3, .int .i64 a4, .int .u64 a5, .int .i64 a6, .int .i64 a7, .int .i64 a8, .int .u64 a9, .slice A n c] 26)) (w2.heap.size + 1) rfl _ _ 24 48 (.agg #[(.int .i64 0), (.int .i64 0)]) 16 rfl Try.underlying24 info48 rfl (by decide) (by omega) (.slice (some ⟨w2.heap.size + 1, 0, none⟩) 0 0) [] l A n c (fun _ => True) (fun _ => False) rfl rfl (R48_nil (heap_alloc2_new w2 _ _) (Nat.le_refl _)) (Kd.C_below HR.out (below_alloc (below_alloc HB2.out _) _)) (fun _ _ h => h) (fun _ h => h.elim) (fun _ _ => trivial) ((Below.refl _ _).alloc (by simp) _) (by simp) (by simp; omega) ?_; intro v4 w4 ho hb hg hat; rw [List.nil_append] at ho; obtain ⟨A4, c4, rfl⟩ := Kd.R_slice ho; rw [HN.out] at ho ⊢; have HO4 := Aside0.mk ho; have hT : w4.heap[w2.heap.size]? = some (.cells #[.int .i64 a0, .int .i64 a1, .int .i64 a2, .int .i64 a3, .int .i64 a4, .int .u64 a5, .int .i64 a6, .int .i64 a7, .int .i64 a8, .int .u64 a9, .slice A n c] 26 (0, 0)) := (hb.block w2.heap.size (by omega)).trans (blk_new w2 _); have hG4 := (hb.block w.heap.size (by have := gl; omega)).trans (blk_alloc HG2.out _); have HG4 := Aside0.mk hG4; have HB4 := Aside0.mk ((HB2.out.alloc HB2.out.size _).trans (hb.mono (by have := HB2.out.size; omega))); have HT4 := Aside0.mk hT; obtain ⟨t0, t1, t2, t3, t4, t5, t6, t7, t8, t9, t10⟩ := cells11 hT; have tz := blk_frozen hT 10; have HO4' := Aside0.mk (R48_far (W' := w4.setCell ⟨w2.heap.size, 10, none⟩ (.slice A4 n c4)) HO4.out (fun k hk _ => Below.heap_setCell _ _ _ _ (show k ≠ w2.heap.size from by omega))); have HT4' := Aside0.mk (blk_set hT 10 (.slice A4 n c4)); have HG4' : Aside0 ((w4.setCell ⟨w2.heap.size, 10, none⟩ (.slice A4 n c4)).heap[w.heap.size]? = some (.cells #[.int .i64 a0, .int .i64 a1, .int .i64 a2, .int .i64 a3, .int .i64 a4, .int .u64 a5, .int .i64 a6, .int .i64 a7, .int .i64 a8, .int .u64 a9, .slice A n c] 26 (0, 0))) := Aside0.mk ((Below.heap_setCell _ _ _ _ (show w.heap.size ≠ w2.heap.size from by omega)).trans hG4); have HB4' := Aside0.mk (show Below w.heap.size w (w4.setCell ⟨w2.heap.size, 10, none⟩ (.slice A4 n c4)) from below_set HB4.out HB2.out.size); clear ho hb hg hat hT hG4 gl f0 f1 f2 f3 f4 f5 f6 f7 f8 f9 f10))
    | (go_at_call 12; go_loud ((with_reducible refine (ENC.out _ _ _ (by have := (Kd.R_reads' HO4'.out).2.2; rw [HN.out] at this; exact this) (Kd.R_reads' HO4'.out).2.1).mono ?_); rintro e w5 ⟨g, c1, rfl, ho, hby, hcl, hge, hb⟩; have HBY5 := Aside0.mk hby; have HO5 := Aside0.mk (Kd.R_below HO4'.out hb); have HT5 := Aside0.mk (blk_below HT4'.out hb); have HG5 := Aside0.mk (blk_below HG4'.out hb); have HB5 := Aside0.mk (HB4'.out.trans (hb.mono HB4'.out.size)); have HGE5 := Aside0.mk (show w4.heap.size ≤ g from by rw [World.size_setCell] at hge; exact hge); have hHT := HT5.out; have u10 : w5.cell? ⟨w2.heap.size, 10, none⟩ = some (.slice A4 n c4) := (blk_cell hHT 10).trans rfl; clear ho hby hge hb hHT t0 t1 t2 t3 t4 t5 t6 t7 t8 t9 t10 tz)))
  have hgm : ∃ gM, w2.heap.size < gM ∧ gM ≠ g ∧ (0 < n → A4 = some ⟨gM, 0, none⟩ ∧ ∃ cur, w5.heap[gM]? = some (.cells cur 48 (0, 0)) ∧ 2 * n ≤ cur.size) := by
    have hgl : g < w5.heap.size := HBY5.out.lt _ rfl (by omega)
    have h24 : w2.heap.size < w4.heap.size := blk_lt HT4.out
    have hge := HGE5.out
    rcases Nat.eq_zero_or_pos n with h0 | h0
    · exact ⟨w5.heap.size, by omega, by omega, fun h => absurd h (by omega)⟩
    · obtain ⟨g0, c0, cur, e, h1, h2, h3⟩ := R48_form HO5.out HN.out h0
      obtain ⟨g1, c1', cur1, e1, q1, q2, q3⟩ := R48_form HO4.out HN.out h0
      have hlt := blk_lt q1
      injection e with e2 e3 e4
      injection e1 with e5 e6 e7
      rw [e2] at e5
      injection e5 with e8
      injection e8 with e9
      subst e9
      exact ⟨g0, by omega, by omega, fun _ => ⟨e2, cur, h1, h2⟩⟩
  obtain ⟨gM, hm1, hm2, hm3⟩ := hgm
  have HM3 := Aside0.mk hm3
  have hpl : w.heap.size < w2.heap.size := blk_lt HG2.out
  have hpl2 := HB2.out.size
  have HPL := Aside0.mk hpl
  have HM1 := Aside0.mk hm1
  have HM2 := Aside0.mk hm2
  clear hm1 hm2 hm3 hpl hpl2 u10
  go_loopw [36] (fun i wr => LoopA w5 gM n i wr) (fun i _ => n - (intOf i).toNat)
  case atStart => exact ⟨0, Nat.zero_le _, rfl, Near.refl _ _, fun h => (HM3.out h).2⟩
  case round =>
    obtain ⟨k, hk, rfl, hN, hcur⟩ := hrel
    have HNr := Aside0.mk hN
    have HC := Aside0.mk hcur
    clear hN hcur
    by_cases hlt : k < n
    · obtain ⟨hA4, -⟩ := HM3.out (by omega)
      obtain ⟨cur, hc, hs⟩ := HC.out (by omega)
      have u10 : wr.cell? ⟨w2.heap.size, 10, none⟩ = some (.slice A4 n c4) := (World.cell?_of_block (w := w5) (HNr.out.block w2.heap.size (blk_lt HT5.out) (by have := HM1.out; omega))).trans ((blk_cell HT5.out 10).trans rfl)
      subst hA4
      obtain ⟨u, hu⟩ : ∃ u, cur[k * 2]? = some u := ⟨_, Array.getElem?_eq_getElem (by omega)⟩
      have hcell := (blk_cell hc (k * 2)).trans hu
      have hfz := blk_frozen hc (k * 2)
      have HCC := Aside0.mk hc
      have HSS := Aside0.mk hs
      clear hc hs hu
      go_wp2
      exact ⟨⟨k + 1, by omega, by go_num, HNr.out.trans (Near.set gM _ _ _), fun _ => ⟨_, blk_set HCC.out _ _, by rw [Array.size_setIfInBounds]; exact HSS.out⟩⟩, by have hq := hlt; simp only [intOf]; omega⟩
    · obtain rfl : n = k := by omega
      have HBYr := Aside0.mk (own_keep_bytes HBY5.out (w' := wr) (fun hlt => HNr.out.block g hlt (fun e => HM2.out e.symm)))
      have HGr := Aside0.mk ((HNr.out.block w.heap.size (blk_lt HG5.out) (by have := HM1.out; have := HPL.out; omega)).trans HG5.out)
      have HBr := Aside0.mk (near_below HNr.out HB5.out (by have := HM1.out; have := HPL.out; omega) (Nat.le_refl _))
      clear hlt hk
      go_wp2_with (first
        | (at_builtin; go_loud (refine append_own2 (w0 := w) (v := .slice (some ⟨wr.heap.size, 0, none⟩) 0 0) (xs := []) (m := bs) rfl _ _ rfl rfl (own_zero (g := wr.heap.size) (heap_alloc_new wr _) HBr.out.size) (below_alloc HBr.out _) ⟨g, 0, none⟩ nn c1 rfl HLEN.out (bytes_cells (HBYr.out.below (below_alloc (Below.refl _ _) _))) (by omega) (by simp; omega) ?_; intro v7 w7 ho hb hkk hor; rw [List.nil_append] at ho; obtain ⟨g7, c7, rfl, hc7, hge7⟩ := own_form ho (by have := HLEN.out; omega); rw [HLEN.out] at ho hc7 ⊢; have hg7 : wr.heap.size ≤ g7 := (hor g7 rfl).elim (fun h => by simp [Value.ownBlock] at h; omega) (fun h => by simp at h; omega); have HG7 := Aside0.mk ((hkk w.heap.size (by have := blk_lt HGr.out; simp; omega) (by have := blk_lt HGr.out; simp [Value.ownBlock]; omega)).trans (blk_alloc HGr.out _)); have HO7 := Aside0.mk ho; have HB7 := Aside0.mk hb; have HGE7 := Aside0.mk hg7; clear ho hb hkk hor hge7 hg7))
        | (go_at_call 15; go_loud ((with_reducible refine (DEC.out _ _ _ _ (own_read HO7.out HLT.out).1 hc7).mono ?_); rintro e w8 ⟨v8, rfl, hR8, hb⟩; obtain ⟨A8, c8, rfl⟩ := Kd.R_slice hR8; rw [HN.out] at hR8 ⊢; have HR8 := Aside0.mk hR8; have HBY8 := Aside0.mk ((own_read HO7.out HLT.out).1.below hb); have HFZ8 := Aside0.mk (own_read (HO7.out.below hb) HLT.out).2; have HG8 := Aside0.mk (blk_below HG7.out hb); have HB8 := Aside0.mk (HB7.out.trans (hb.mono HB7.out.size)); have HB78 := Aside0.mk hb; clear hR8 hb)))
      obtain ⟨wQ, hwQ⟩ : ∃ wQ, wQ = w8.alloc (.cells #[.int .i64 a0, .int .i64 a1, .int .i64 a2, .int .i64 a3, .int .i64 a4, .int .u64 a5, .int .i64 a6, .int .i64 a7, .int .i64 a8, .int .u64 a9, .slice A8 n c8] 26) := ⟨_, rfl⟩
      obtain ⟨gQ, hgQ⟩ : ∃ gQ, w8.heap.size = gQ := ⟨_, rfl⟩
      have HQQ := Aside0.mk (show wQ.heap[gQ]? = some (.cells #[.int .i64 a0, .int .i64 a1, .int .i64 a2, .int .i64 a3, .int .i64 a4, .int .u64 a5, .int .i64 a6, .int .i64 a7, .int .i64 a8, .int .u64 a9, .slice A8 n c8] 26 (0, 0)) by rw [hwQ, ← hgQ]; exact blk_new w8 _)
      have HB8Q := Aside0.mk (show Below w8.heap.size w8 wQ by rw [hwQ]; exact below_alloc (Below.refl _ _) _)
      have h78 : w7.heap.size ≤ gQ := by rw [← hgQ]; exact (show Below w7.heap.size w7 w8 from HB78.out).size
      rw [← hwQ, hgQ]
      have HH78 := Aside0.mk h78
      have HQ7 := Aside0.mk (show g7 < w7.heap.size from (HO7.out.lt rfl).2)
      have HBYQ := Aside0.mk (HBY8.out.below HB8Q.out)
      have HGQ := Aside0.mk (blk_below HG8.out HB8Q.out)
      have HBQ := Aside0.mk (HB8.out.trans (HB8Q.out.mono HB8.out.size))
      have HRQ := Aside0.mk (Kd.R_below HR8.out HB8Q.out)
      have HFZQ : Aside0 (∀ i, wQ.frozen? ⟨g7, i, none⟩ = false) := Aside0.mk (fun i => (World.frozen?_of_block (w := w8) (a := ⟨g7, i, none⟩) (HB8Q.out.block g7 (HBY8.out.lt _ rfl (by omega)))).trans (HFZ8.out i))
      clear hwQ hgQ h78
      go_loopw [55] (fun i wr => LoopB wQ g7 nn i wr) (fun i _ => nn - (intOf i).toNat)
      case atStart => exact ⟨0, bs, Nat.zero_le _, rfl, Near.refl _ _, HBYQ.out, HFZQ.out⟩
      case round =>
        obtain ⟨q, xs, hk, rfl, hN, hby, hfz⟩ := hrel
        have HNs := Aside0.mk hN
        have HBY := Aside0.mk hby
        have HFZ := Aside0.mk hfz
        clear hN hby hfz
        by_cases hlt : q < nn
        · obtain ⟨_, ha, kx⟩ := HBY.out.at hlt
          cases ha
          rw [add_zero_at] at kx
          have hx := byte_at HBY.out.2.2.1 q
          obtain ⟨x, hxe⟩ : ∃ x, xs.getD q 0 = x := ⟨_, rfl⟩
          rw [hxe] at kx hx
          have h8 := HandC.xor8 x 255 hx (by decide)
          have hz : x ^^^ 255 < 256 := HandC.xor_lt 8 hx (by decide)
          obtain ⟨z, hze⟩ : ∃ z, x ^^^ 255 = z := ⟨_, rfl⟩
          rw [hze] at h8 hz
          have h8' : bits .xor .u8 (x : Int) 255 = (z : Int) := h8
          have fx := HFZ.out q
          have HBY2 := Aside0.mk (bytes_set HBY.out hlt hz)
          clear hxe hze h8
          go_wp2
          exact ⟨⟨q + 1, _, by omega, by go_num, HNs.out.trans (Near.set g7 _ _ _), HBY2.out, fun i => by rw [World.frozen?_setCell]; exact HFZ.out i⟩, by have hq := hlt; simp only [intOf]; omega⟩
        · obtain rfl : nn = q := by omega
          have n7 : w.heap.size ≠ g7 := by have := HGE7.out; have := blk_lt HGr.out; omega
          have nQ : gQ ≠ g7 := by have := HH78.out; have := HQ7.out; omega
          have hG := (HNs.out.block w.heap.size (blk_lt HGQ.out) n7).trans HGQ.out
          have hQ := (HNs.out.block gQ (blk_lt HQQ.out) nQ).trans HQQ.out
          obtain ⟨f0, f1, f2, f3, f4, f5, f6, f7, f8, f9, f10⟩ := cells11 hG
          obtain ⟨g0, g1, g2, g3, g4, g5, g6, g7', g8, g9, g10⟩ := cells11 hQ
          have HBs := Aside0.mk (near_below HNs.out HBQ.out (by have := HGE7.out; have := blk_lt HGr.out; omega) (Nat.le_refl _))
          have HRs := Aside0.mk (R48_far (W' := wr) HRQ.out (fun k h1 h2 => HNs.out.block k h2 (by have := HQ7.out; omega)))
          clear hG hQ hlt hk
          go_wp2_with (go_at_call 18; go_loud ((with_reducible refine (SPK.out _ _ _ (Kd.C_below HR.out HBs.out) (by have := (Kd.R_reads' HRs.out).2.2; rw [HN.out] at this; exact this) (Kd.R_reads' HRs.out).2.1).mono ?_); rintro e w9 ⟨rfl, hb⟩; have HB9 := Aside0.mk (HBs.out.trans (hb.mono HBs.out.size)); clear hb))
          go_ret
          exact ⟨by simp, HB9.out⟩
set_option maxRecDepth 100000 in
theorem own_wrong (a0 a1 a2 a3 a4 a5 a6 a7 a8 a9 : Int) (A : Option Addr) (c : Nat) (l : List S48) (n : Nat) (hn : l.length = n) (w : World) (hr : Kd.C k48 w A n l) (hc : n ≤ c) (hn20 : n ≤ 20) (hrt : rightB a0 a1 a2 a3 a4 a5 a6 a7 a8 a9 l = false) :
    Calls Try.prog 9 #[.agg #[.int .i64 a0, .int .i64 a1, .int .i64 a2, .int .i64 a3, .int .i64 a4, .int .u64 a5, .int .i64 a6, .int .i64 a7, .int .i64 a8, .int .u64 a9, .slice A n c]] w fun e w' => e = .returned (.bool true) ∧ Below w.heap.size w w' := by
  have RC := Aside0.mk (fun W (h : Kd.C k48 W A n l) => right_c a0 a1 a2 a3 a4 a5 a6 a7 a8 a9 A c l W (by rw [hn]; exact h) (by omega) false hrt)
  rw [hn] at RC
  have HR := Aside0.mk hr
  clear hr hrt hn
  go_enter Try.func9, Try.ntmps9
  go_wp2_with (first
    | (go_at_call 10; go_loud (refine (anchor_c _).mono ?_; rintro e w1 ⟨rfl, hb⟩; have HB1 := Aside0.mk (below_step (below_alloc (Below.refl _ _) _) hb); have HG := Aside0.mk (blk_below (blk_new w _) hb); clear hb; obtain ⟨f0, f1, f2, f3, f4, f5, f6, f7, f8, f9, f10⟩ := cells11 HG.out; have gl := World.block_lt_of_cell? w1 _ f0; dsimp only at gl))
    | (go_at_call 13; go_loud ((with_reducible refine (RC.out _ (Kd.C_below HR.out HB1.out)).mono ?_); rintro e w2 ⟨rfl, hb⟩; have HB2 := Aside0.mk (HB1.out.trans (hb.mono HB1.out.size)); have HG2 := Aside0.mk (blk_below HG.out hb); clear hb gl f0 f1 f2 f3 f4 f5 f6 f7 f8 f9 f10; obtain ⟨f0, f1, f2, f3, f4, f5, f6, f7, f8, f9, f10⟩ := cells11 HG2.out; have gl := World.block_lt_of_cell? w2 _ f0; dsimp only at gl)))
  go_ret
  exact ⟨rfl, HB2.out⟩
set_option maxRecDepth 100000 in
theorem own_out (a0 a1 a2 a3 a4 a5 a6 a7 a8 a9 : Int) (A : Option Addr) (c : Nat) (l : List S48) (n : Nat) (hn : l.length = n) (w : World) (hr : Kd.C k48 w A n l) (hc : n ≤ c) (hn20 : 20 < n) : Calls Try.prog 9 #[.agg #[.int .i64 a0, .int .i64 a1, .int .i64 a2, .int .i64 a3, .int .i64 a4, .int .u64 a5, .int .i64 a6, .int .i64 a7, .int .i64 a8, .int .u64 a9, .slice A n c]] w fun e w' => e = .returned (.bool true) ∧ Below w.heap.size w w' := by
  have hm := hr.2.1
  clear hr
  go_enter Try.func9, Try.ntmps9
  go_wp2_with (first
    | (go_at_call 10; go_loud (refine (anchor_c _).mono ?_; rintro e w1 ⟨rfl, hb⟩; have HB1 := Aside0.mk (below_step (below_alloc (Below.refl _ _) _) hb); have HG := Aside0.mk (blk_below (blk_new w _) hb); clear hb; obtain ⟨f0, f1, f2, f3, f4, f5, f6, f7, f8, f9, f10⟩ := cells11 HG.out; have gl := World.block_lt_of_cell? w1 _ f0; dsimp only at gl)))
  go_ret
  exact ⟨rfl, HB1.out⟩
theorem own_calls (a0 a1 a2 a3 a4 a5 a6 a7 a8 a9 : Int) (A : Option Addr) (c : Nat) (l : List S48) (w : World) (hr : Kd.C k48 w A l.length l) (hc : l.length ≤ c) (h5 : 0 ≤ a5 ∧ a5 < 18446744073709551616) (h9 : 0 ≤ a9 ∧ a9 < 18446744073709551616) :
    Calls Try.prog 9 #[.agg #[.int .i64 a0, .int .i64 a1, .int .i64 a2, .int .i64 a3, .int .i64 a4, .int .u64 a5, .int .i64 a6, .int .i64 a7, .int .i64 a8, .int .u64 a9, .slice A l.length c]] w fun e w' => e = .returned (.bool true) ∧ Below w.heap.size w w' := by
  by_cases h : l.length ≤ 20
  · cases ha : rightB a0 a1 a2 a3 a4 a5 a6 a7 a8 a9 l with
    | true => exact own_yes a0 a1 a2 a3 a4 a5 a6 a7 a8 a9 A c l _ rfl w hr hc h ha h5 h9 _ rfl
    | false => exact own_wrong a0 a1 a2 a3 a4 a5 a6 a7 a8 a9 A c l _ rfl w hr hc h ha
  · exact own_out a0 a1 a2 a3 a4 a5 a6 a7 a8 a9 A c l _ rfl w hr hc (by omega)
end Go.Proofs.Ytldiipomcenbkaa.Qw
