/- WireCuts by hand: bytes that are cut off, or have others behind, or a bit turned, are no packet. -/
import Derived.Test.YtldiipomcenbkaaHandT
import Derived.RegionTactic
import Derived.ChangeAlike
namespace Go.Proofs.Ytldiipomcenbkaa.Qw
open Go.RowKit Go.Proofs.YtldiipomcenbkaaW.PrintWords Go.Proofs.YtldiipomcenbkaaW.PrintLast Go.Proofs.YtldiipomcenbkaaW.PrintMore
open HandS (Bytes byte_at add_block)
set_option linter.unusedVariables false
set_option linter.unusedSimpArgs false
theorem decode_bad (a : Option Addr) (cap len : Nat) (l : List Nat) (w : World) (hl : Bytes w a len l) (hc : len ≤ cap) (F : Nat) (hF : frameN l = F) (h0 : F ≠ 0) :
    Calls Try.prog 15 #[.slice a len cap] w fun e w' => e = .returned (.tuple #[.agg #[.int .i64 0, .int .i64 0, .int .i64 0, .int .i64 0, .int .i64 0, .int .u64 0, .int .i64 0, .int .i64 0, .int .i64 0, .int .u64 0, .slice none 0 0], .int .i64 F]) ∧ Below w.heap.size w w' := decode_err a cap len l w hl hc F hF h0
theorem own_zero {w0 W : World} {g : Nat} (hg : W.heap[g]? = some (.cells #[] 5 (0, 0))) (hs : w0.heap.size ≤ g) : Own w0 W (.slice (some ⟨g, 0, none⟩) 0 0) [] :=
  row_own ⟨rfl, .inr ⟨g, 0, _, rfl, hs, hg, Nat.le_refl _, by decide, rfl, rfl⟩⟩
theorem bytes_cells {W : World} {ad : Addr} {n : Nat} {m : List Nat} (h : Bytes W (some ad) n m) : ∀ j u, (enc8 m)[j]? = some u → W.cell? (ad.add j) = some u := by
  intro j u hu
  unfold enc8 encs iz at hu
  rw [List.getElem?_map, List.getElem?_map] at hu
  obtain ⟨y, hy, rfl⟩ := Option.map_eq_some_iff.1 hu
  obtain ⟨x, hx, rfl⟩ := Option.map_eq_some_iff.1 hy
  have hj := (List.getElem?_eq_some_iff.1 hx).1
  obtain ⟨ad', e, hc⟩ := h.at (i := j) (by rw [← h.1]; exact hj)
  obtain rfl : ad = ad' := Option.some.inj e
  rw [hc, List.getD_eq_getElem?_getD, hx]
  rfl
/-- A row of the call's own, its slice written out. -/
theorem own_read {w0 w : World} {g n c : Nat} {bs : List Nat} (h : Own w0 w (.slice (some ⟨g, 0, none⟩) n c) bs) (hl : ∀ x ∈ bs, x < 256) : Bytes w (some ⟨g, 0, none⟩) n bs ∧ ∀ i, w.frozen? ⟨g, i, none⟩ = false := by
  obtain ⟨a, c', hv, hby, _⟩ := own_bytes h hl
  injection hv with e1 e2 e3
  subst e1 e2
  refine ⟨hby, fun i => ?_⟩
  rcases (own_row h).2 with ⟨h0, _⟩ | ⟨g', cap, cur, h0, _, h2, _⟩
  · cases h0
  · injection h0 with h3
    injection h3 with h4
    injection h4 with h5
    subst h5
    exact blk_frozen h2 i
theorem bytes_set {w : World} {g n : Nat} {cs : List Nat} (h : Bytes w (some ⟨g, 0, none⟩) n cs) {j v : Nat} (hj : j < n) (hv : v < 256) : Bytes (w.setCell ⟨g, j, none⟩ (.int .u8 (v : Nat))) (some ⟨g, 0, none⟩) n (cs.set j v) := by
  have hcell : ∀ i, i < n → w.cell? ⟨g, i, none⟩ = some (.int .u8 (cs.getD i 0 : Nat)) := fun i hi => by
    obtain ⟨ad, e, hc⟩ := h.at hi
    cases e
    rw [add_zero_at] at hc
    exact hc
  refine ⟨by rw [List.length_set]; exact h.1, h.2.1, fun x hx => ?_, fun _ => ⟨_, rfl, fun i hi => ?_⟩⟩
  · rcases List.mem_or_eq_of_mem_set hx with h1 | h1
    · exact h.2.2.1 x h1
    · rw [h1]; exact hv
  · rw [add_zero_at]
    by_cases e : j = i
    · subst e
      rw [World.cell?_setCell_same _ _ _ (hcell j hj), List.getD_eq_getElem?_getD, List.getElem?_set_self (by rw [h.1]; exact hj)]
      rfl
    · rw [World.cell?_setCell_other _ _ _ _ (HandS.other e), hcell i hi, List.getD_eq_getElem?_getD, List.getD_eq_getElem?_getD, List.getElem?_set_ne e]
section
variable {ops : Array Oper} {rest : List Oper} {o : Oper} {a : Act} {Q : Exit → Act → World → Prop} {w0 W : World}
theorem append_own2 {v : Value} {xs m : List Nat} (hgd : o.guard = none) (s x : Operand) (ho : o.op = .call { callee := .builtin .append, args := #[s, x], argTypes := #[32, 32] })
    (hs : a.eval s = v) (hO : Own w0 W v xs) (hB : Below w0.heap.size w0 W) (ad : Addr) (n c : Nat) (hx : a.eval x = .slice (some ad) n c) (hn : m.length = n) (hm : ∀ j u, (enc8 m)[j]? = some u → W.cell? (ad.add j) = some u) (h0 : 0 < n) (hlen : xs.length + n ≤ 10000)
    (h : ∀ v' w', Own w0 w' v' (xs ++ m) → Below w0.heap.size w0 w' → (∀ k, k < W.heap.size → some k ≠ v.ownBlock → w'.heap[k]? = W.heap[k]?) → (∀ q, v'.ownBlock = some q → v.ownBlock = some q ∨ q = W.heap.size) → wpList Try.prog ops Q rest (a.put o.dst v') w') : wpList Try.prog ops Q (o :: rest) a W := by
  obtain ⟨i0, hi, hzz⟩ := Option.map_eq_some_iff.1 info5
  simp only [Prod.mk.injEq] at hzz
  obtain ⟨hz0, hz1, hz2⟩ := hzz
  refine wpList_append_lies W hgd s x 32 ho w0.heap.size 5 i0 _ 1 1 Try.underlying32 hi hz0 hz1 hz2 rfl (by decide) v xs.length (enc8 xs) hs (own_row hO) ad n c (enc8 m) hx (by rw [enc8_length]; omega) hm (fun u hu => ?_) h0 (by unfold maxLen; omega) (by omega) hB.size _ rfl ?_
  · unfold enc8 encs at hu
    obtain ⟨y, _, rfl⟩ := List.mem_map.1 hu
    rfl
  · intro g cap w' hown' hgrow hat hlt
    refine h _ w' (row_own ?_) (hB.grown hgrow hB.size (fun k hk => (hO.lt hk).1)) (fun k hk hne => hgrow.block k hk (fun e => hne e)) (fun q hq => by
      have hgq : g = q := by simpa [Value.ownBlock] using hq
      subst hgq
      exact hat)
    rw [List.length_append, hn, enc8_append]
    exact hown'
end
theorem own_keep_bytes {w w' : World} {g n : Nat} {bs : List Nat} (h : Bytes w (some ⟨g, 0, none⟩) n bs) (hk : g < w.heap.size → w'.heap[g]? = w.heap[g]?) : Bytes w' (some ⟨g, 0, none⟩) n bs := by
  refine ⟨h.1, h.2.1, h.2.2.1, fun hp => ?_⟩
  obtain ⟨ad, h1, h2⟩ := h.2.2.2 hp
  refine ⟨ad, h1, fun i hi => ?_⟩
  cases h1
  have h3 := h2 i hi
  rw [add_zero_at] at h3 ⊢
  rw [← h3]
  exact World.cell?_of_block (w := w) (hk (World.block_lt_of_cell? w _ h3))
set_option maxRecDepth 100000 in
set_option maxHeartbeats 8000000 in
theorem cuts_yes (a0 a1 a2 a3 a4 a5 a6 a7 a8 a9 : Int) (A : Option Addr) (c : Nat) (l : List S48) (n : Nat) (hn : l.length = n) (w : World) (hr : Kd.C k48 w A n l) (hc : n ≤ c) (hn20 : n ≤ 20) (hrt : rightB a0 a1 a2 a3 a4 a5 a6 a7 a8 a9 l = true) (h5 : 0 ≤ a5 ∧ a5 < 18446744073709551616) (h9 : 0 ≤ a9 ∧ a9 < 18446744073709551616)
    (t j e : Nat) (nn : Nat) (hnn : 79 + 9 * n = nn) (hj : t % nn = j) (he : t % 8 = e) (ht : t ≤ 9223372036854775807) (ad : Option Addr) (cap m : Nat) (ml : List Nat) (hm : Bytes w ad m ml) (hmc : m ≤ cap) (hm1 : 1 ≤ m) (hm50 : m ≤ 50) :
    Calls Try.prog 5 #[.agg #[.int .i64 a0, .int .i64 a1, .int .i64 a2, .int .i64 a3, .int .i64 a4, .int .u64 a5, .int .i64 a6, .int .i64 a7, .int .i64 a8, .int .u64 a9, .slice A n c], .int .i64 t, .slice ad m cap] w fun e w' => e = .returned (.bool true) ∧ Below w.heap.size w w' := by
  obtain ⟨ad, rfl, _⟩ := hm.2.2.2 (by omega)
  have R := right_of hrt
  have hn3 := R.len
  rw [hn] at hn3
  have hjn : j < nn := by rw [← hj]; exact Nat.mod_lt _ (by omega)
  have he8 : e < 8 := by omega
  have hnn2 : nn ≤ 106 := by omega
  have hnn1 : 79 ≤ nn := by omega
  have jI : (t : Int) % (nn : Int) = (j : Int) := by rw [← hj]; exact (Int.natCast_emod t nn).symm
  have eI : (t : Int) % 8 = (e : Int) := by omega
  have hlt := encI_lt R
  have hfr := encI_frame R
  have hlen := @encI_length a0 a1 a2 a3 a4 a5 a6 a7 a8 a9 l
  obtain ⟨bs, hbs⟩ : ∃ bs, encI a0 a1 a2 a3 a4 a5 a6 a7 a8 a9 l = bs := ⟨_, rfl⟩
  rw [hbs] at hlt hfr hlen
  rw [hn, hnn] at hlen
  have ENC := Aside0.mk (fun W (h : Kd.C k48 W A n l) => encode_r a0 a1 a2 a3 a4 a5 a6 a7 a8 a9 A c l W (by rw [hn]; exact h) (by omega) h5 h9 hrt bs hbs nn (by omega))
  rw [hn] at ENC
  obtain ⟨v, hv⟩ : ∃ v, 2 ^ e = v := ⟨_, rfl⟩
  have hv256 : v < 256 := by rw [← hv]; exact Nat.pow_lt_pow_right (by decide : 1 < 2) he8
  have hv0 : 0 < v := by rw [← hv]; exact Nat.pow_pos (by decide)
  obtain ⟨x, hx⟩ : ∃ x, bs.getD j 0 = x := ⟨_, rfl⟩
  have hx256 : x < 256 := by rw [← hx]; exact byte_at hlt j
  have hF3 := turn_frame bs hfr hlt j v (by omega) hv256 hv0
  rw [hx] at hF3
  have h8 := HandC.xor8 x v hx256 hv256
  have hz : x ^^^ v < 256 := HandC.xor_lt 8 hx256 hv256
  obtain ⟨z, hze⟩ : ∃ z, x ^^^ v = z := ⟨_, rfl⟩
  rw [hze] at hF3 h8 hz
  obtain ⟨F, hF⟩ : ∃ F, frameN (bs.set j z) = F := ⟨_, rfl⟩
  rw [hF] at hF3
  have hF3i : ((F : Int) != 0) = true := bne_iff_ne.mpr (by omega)
  have DEC1 := Aside0.mk (fun W (a : Option Addr) (cp : Nat) (h : Bytes W a j (bs.take j)) (hc : j ≤ cp) => decode_bad a cp j (bs.take j) W h hc 11 (cut_frame bs hfr j (by omega)) (by decide))
  have DEC2 := Aside0.mk (fun W (a : Option Addr) (cp ln : Nat) (h : Bytes W a ln (bs ++ ml)) (hc : ln ≤ cp) => decode_bad a cp ln (bs ++ ml) W h hc 10 (long_frame bs ml hfr (by rw [hm.1]; omega)) (by decide))
  have DEC3 := Aside0.mk (fun W (a : Option Addr) (cp ln : Nat) (h : Bytes W a ln (bs.set j z)) (hc : ln ≤ cp) => decode_bad a cp ln (bs.set j z) W h hc F hF hF3)
  have HR := Aside0.mk hr
  have HM := Aside0.mk hm
  have HLT := Aside0.mk hlt
  have HLEN := Aside0.mk hlen
  have HX := Aside0.mk hx
  have HLM : Aside0 (∀ y ∈ bs ++ ml, y < 256) := Aside0.mk (fun y hy => (List.mem_append.1 hy).elim (hlt y) (hm.2.2.1 y))
  have HML := Aside0.mk hm.1
  obtain ⟨q5, hq5⟩ : ∃ q5, (bs ++ ml).length = q5 := ⟨_, rfl⟩
  have HQ5 := Aside0.mk hq5
  clear hq5
  have HV := Aside0.mk hv
  clear hv
  clear hr hrt hn hm hlt hlen hfr hbs hF hF3 hx hze h5 h9 hnn hj he R
  go_enter Try.func5, Try.ntmps5
  go_wp2_with (first
    | (go_at_call 10; go_loud (refine (anchor_c _).mono ?_; rintro e w1 ⟨rfl, hb⟩; have HB1 := Aside0.mk (below_step (below_alloc (Below.refl _ _) _) hb); have HG := Aside0.mk (blk_below (blk_new w _) hb); clear hb; obtain ⟨f0, f1, f2, f3, f4, f5, f6, f7, f8, f9, f10⟩ := cells11 HG.out; have gl := World.block_lt_of_cell? w1 _ f0; dsimp only at gl))
    | (go_at_call 12; go_loud ((with_reducible refine (ENC.out _ (Kd.C_below HR.out HB1.out)).mono ?_); rintro e w2 ⟨g, c1, rfl, ho, hby, hcl, hge, hb⟩; have HBY := Aside0.mk hby; have HB2 := Aside0.mk (HB1.out.trans (hb.mono HB1.out.size)); have hcut := fun W => cut1 (some ⟨g, 0, none⟩) nn c1 j W (by omega) hcl; clear ho hby hb gl f0 f1 f2 f3 f4 f5 f6 f7 f8 f9 f10))
    | (go_at_call 15; go_loud ((with_reducible refine (DEC1.out _ _ _ (Bytes_take HBY.out (Nat.le_of_lt hjn)) (by omega)).mono ?_); rintro e w3 ⟨rfl, hb⟩; have HBY3 := Aside0.mk (HBY.out.below hb); have hg3 : g < w3.heap.size := HBY3.out.lt _ rfl (by omega); have HB3 := Aside0.mk (HB2.out.trans (hb.mono HB2.out.size)); clear hb))
    | (at_builtin; go_loud (refine append_own2 (w0 := w) (v := .slice (some ⟨w3.heap.size + 1, 0, none⟩) 0 0) (xs := []) (m := bs) rfl _ _ rfl rfl (own_zero (g := w3.heap.size + 1) (heap_alloc2_new w3 _ _) (by have := HB3.out.size; omega)) (below_alloc (below_alloc HB3.out _) _) ⟨g, 0, none⟩ nn c1 rfl HLEN.out (bytes_cells (HBY3.out.below (below_alloc (below_alloc (Below.refl _ _) _) _))) (by omega) (by simp; omega) ?_; intro v4 w4 ho hb hk hor; rw [List.nil_append] at ho; have hor4 : ∀ q, v4.ownBlock = some q → g ≠ q := (fun q hq => (hor q hq).elim (fun h => by simp [Value.ownBlock] at h; omega) (fun h => by simp at h; omega)); obtain ⟨g4, c4, hv4, hc4, hge4⟩ := own_form ho (by have := HLEN.out; omega); have hne4 : g ≠ g4 := hor4 g4 (by rw [hv4]; rfl); subst hv4; rw [HLEN.out] at ho ⊢; have HO4 := Aside0.mk ho; have HB4 := Aside0.mk hb; have HBY4 := Aside0.mk (own_keep_bytes (HBY3.out.below (below_alloc (below_alloc (Below.refl _ _) _) _)) (w' := w4) (fun hlt => hk g hlt (by simp [Value.ownBlock]; omega))); have hg34 : g ≠ g4 := hne4; clear ho hb hk))
    | (at_builtin; go_loud (refine append_own2 (w0 := w) (v := .slice (some ⟨g4, 0, none⟩) nn c4) (xs := bs) (m := ml) rfl _ _ rfl rfl HO4.out HB4.out ad m cap rfl HML.out (bytes_cells (HM.out.below HB4.out)) (by omega) (by have := HLEN.out; omega) ?_; intro v5 w5 ho hb hk hor; obtain ⟨g5, c5, rfl, hc5, hge5⟩ := own_form ho (by have := HLEN.out; rw [List.length_append]; omega); rw [HQ5.out] at ho hc5 ⊢; have HO5 := Aside0.mk ho; have HB5 := Aside0.mk hb; have HBY5 := Aside0.mk (own_keep_bytes HBY4.out (w' := w5) (fun hlt => hk g hlt (fun e => hg34 (Option.some.inj e)))); clear ho hb hk hor))
    | (go_at_call 15; go_loud ((with_reducible refine (DEC2.out _ _ _ _ (own_read HO5.out HLM.out).1 hc5).mono ?_); rintro e w6 ⟨rfl, hb⟩; have HBY6 := Aside0.mk (HBY5.out.below hb); have HB6 := Aside0.mk (HB5.out.trans (hb.mono HB5.out.size)); clear hb))
    | (at_builtin; go_loud (refine append_own2 (w0 := w) (v := .slice (some ⟨w6.heap.size + 1, 0, none⟩) 0 0) (xs := []) (m := bs) rfl _ _ rfl rfl (own_zero (g := w6.heap.size + 1) (heap_alloc2_new w6 _ _) (by have := HB6.out.size; omega)) (below_alloc (below_alloc HB6.out _) _) ⟨g, 0, none⟩ nn c1 rfl HLEN.out (bytes_cells (HBY6.out.below (below_alloc (below_alloc (Below.refl _ _) _) _))) (by omega) (by simp; omega) ?_; intro v7 w7 ho hb hk hor; rw [List.nil_append] at ho; obtain ⟨g7, c7, rfl, hc7, hge7⟩ := own_form ho (by have := HLEN.out; omega); rw [HLEN.out] at ho hc7 ⊢; have HO7 := Aside0.mk ho; have HB7 := Aside0.mk hb; have HGE7 := Aside0.mk hge7; clear ho hb hk hor hge7)))
  obtain ⟨hby7, hfz7⟩ := own_read HO7.out HLT.out
  obtain ⟨_, ha, kj⟩ := hby7.at (i := j) hjn
  cases ha
  rw [HX.out, add_zero_at] at kj
  have fj := hfz7 j
  have HBY7 := Aside0.mk hby7
  have hjnI : (j : Int) < (nn : Int) := by omega
  have hj0 : (0 : Int) ≤ (j : Int) := by omega
  have hjt : ((j : Int)).toNat = j := by omega
  have hp2 : (2 : Int) ^ e % 256 = (v : Int) := by
    rw [← HV.out, show (2 : Int) ^ e = ((2 ^ e : Nat) : Int) by rw [Int.natCast_pow]; rfl]
    have := HV.out
    omega
  clear hby7 hfz7 hcut
  go_region
  (try rw [hp2])
  (try rw [h8])
  clear hp2 h8
  obtain ⟨w8, hw8⟩ : ∃ w8, w8 = (w7.setCell ⟨g7, j, none⟩ (.int .u8 (z : Nat))).drew := ⟨_, rfl⟩
  rw [← hw8]
  have HBY8 := Aside0.mk (show Bytes w8 (some ⟨g7, 0, none⟩) nn (bs.set j z) by rw [hw8]; exact (bytes_set HBY7.out hjn hz).below (below_drew (Below.refl _ _)))
  have HB8 := Aside0.mk (show Below w.heap.size w w8 by rw [hw8]; exact below_drew (HB7.out.setCell HGE7.out _))
  clear hw8 kj fj
  go_wp2_with (first
    | (go_at_call 15; go_loud ((with_reducible refine (DEC3.out _ _ _ _ HBY8.out hc7).mono ?_); rintro e w9 ⟨rfl, hb⟩; have HB9 := Aside0.mk (HB8.out.trans (hb.mono HB8.out.size)); clear hb)))
  go_ret
  exact ⟨by simp, HB9.out.alloc HB9.out.size _⟩
set_option maxRecDepth 100000 in
theorem cuts_no (a0 a1 a2 a3 a4 a5 a6 a7 a8 a9 : Int) (A : Option Addr) (c : Nat) (l : List S48) (n : Nat) (hn : l.length = n) (w : World) (hr : Kd.C k48 w A n l) (hc : n ≤ c) (hn20 : n ≤ 20) (hrt : rightB a0 a1 a2 a3 a4 a5 a6 a7 a8 a9 l = false) (t : Int) (t0 : 0 ≤ t) (ad : Option Addr) (cap m : Nat) (hm1 : 1 ≤ m) (hm50 : m ≤ 50) :
    Calls Try.prog 5 #[.agg #[.int .i64 a0, .int .i64 a1, .int .i64 a2, .int .i64 a3, .int .i64 a4, .int .u64 a5, .int .i64 a6, .int .i64 a7, .int .i64 a8, .int .u64 a9, .slice A n c], .int .i64 t, .slice ad m cap] w fun e w' => e = .returned (.bool true) ∧ Below w.heap.size w w' := by
  have ENC := Aside0.mk (fun W (h : Kd.C k48 W A n l) => encode_no a0 a1 a2 a3 a4 a5 a6 a7 a8 a9 A c l W (by rw [hn]; exact h) (by omega) hrt)
  rw [hn] at ENC
  have HR := Aside0.mk hr
  clear hr hrt hn
  go_enter Try.func5, Try.ntmps5
  go_wp2_with (first
    | (go_at_call 10; go_loud (refine (anchor_c _).mono ?_; rintro e w1 ⟨rfl, hb⟩; have HB1 := Aside0.mk (below_step (below_alloc (Below.refl _ _) _) hb); have HG := Aside0.mk (blk_below (blk_new w _) hb); clear hb; obtain ⟨f0, f1, f2, f3, f4, f5, f6, f7, f8, f9, f10⟩ := cells11 HG.out; have gl := World.block_lt_of_cell? w1 _ f0; dsimp only at gl))
    | (go_at_call 12; go_loud ((with_reducible refine (ENC.out _ (Kd.C_below HR.out HB1.out)).mono ?_); rintro e w2 ⟨rfl, hb⟩; have HB2 := Aside0.mk (HB1.out.trans (hb.mono HB1.out.size)); clear hb)))
  go_ret
  exact ⟨rfl, HB2.out⟩
set_option maxRecDepth 100000 in
theorem cuts_out (a0 a1 a2 a3 a4 a5 a6 a7 a8 a9 : Int) (A : Option Addr) (c : Nat) (l : List S48) (n : Nat) (hn : l.length = n) (w : World) (hr : Kd.C k48 w A n l) (hc : n ≤ c) (t : Int) (ad : Option Addr) (cap m : Nat) (hmm : m ≤ 9223372036854775807) (h : 20 < n ∨ (n ≤ 20 ∧ t < 0) ∨ (n ≤ 20 ∧ 0 ≤ t ∧ m < 1) ∨ (n ≤ 20 ∧ 0 ≤ t ∧ 1 ≤ m ∧ 50 < m)) :
    Calls Try.prog 5 #[.agg #[.int .i64 a0, .int .i64 a1, .int .i64 a2, .int .i64 a3, .int .i64 a4, .int .u64 a5, .int .i64 a6, .int .i64 a7, .int .i64 a8, .int .u64 a9, .slice A n c], .int .i64 t, .slice ad m cap] w fun e w' => e = .returned (.bool true) ∧ Below w.heap.size w w' := by
  have hmn := hr.2.1
  clear hr
  rcases h with h | ⟨h, h1⟩ | ⟨h, h1, h2⟩ | ⟨h, h1, h2, h3⟩
  all_goals
    go_enter Try.func5, Try.ntmps5
    go_wp2_with (first
      | (go_at_call 10; go_loud (refine (anchor_c _).mono ?_; rintro e w1 ⟨rfl, hb⟩; have HB1 := Aside0.mk (below_step (below_alloc (Below.refl _ _) _) hb); have HG := Aside0.mk (blk_below (blk_new w _) hb); clear hb; obtain ⟨f0, f1, f2, f3, f4, f5, f6, f7, f8, f9, f10⟩ := cells11 HG.out; have gl := World.block_lt_of_cell? w1 _ f0; dsimp only at gl)))
    go_ret
    exact ⟨rfl, HB1.out⟩
theorem cuts_calls (a0 a1 a2 a3 a4 a5 a6 a7 a8 a9 : Int) (A : Option Addr) (c : Nat) (l : List S48) (w : World) (hr : Kd.C k48 w A l.length l) (hc : l.length ≤ c) (h5 : 0 ≤ a5 ∧ a5 < 18446744073709551616) (h9 : 0 ≤ a9 ∧ a9 < 18446744073709551616) (t : Int) (ht : (Lit.int .i64 t).wf = true) (ad : Option Addr) (cap m : Nat) (ml : List Nat) (hm : Bytes w ad m ml) (hmc : m ≤ cap) :
    Calls Try.prog 5 #[.agg #[.int .i64 a0, .int .i64 a1, .int .i64 a2, .int .i64 a3, .int .i64 a4, .int .u64 a5, .int .i64 a6, .int .i64 a7, .int .i64 a8, .int .u64 a9, .slice A l.length c], .int .i64 t, .slice ad m cap] w fun e w' => e = .returned (.bool true) ∧ Below w.heap.size w w' := by
  have ht2 : t ≤ 9223372036854775807 := by
    simp [Lit.wf, IntKind.min, IntKind.max, IntKind.bits, IntKind.signed] at ht
    omega
  by_cases h : l.length ≤ 20 ∧ 0 ≤ t ∧ 1 ≤ m ∧ m ≤ 50
  · obtain ⟨h1, h2, h3, h4⟩ := h
    cases ha : rightB a0 a1 a2 a3 a4 a5 a6 a7 a8 a9 l with
    | true =>
      obtain ⟨k, rfl⟩ : ∃ k : Nat, t = k := ⟨t.toNat, by omega⟩
      exact cuts_yes a0 a1 a2 a3 a4 a5 a6 a7 a8 a9 A c l _ rfl w hr hc h1 ha h5 h9 k _ _ _ rfl rfl rfl (by omega) ad cap m ml hm hmc h3 h4
    | false => exact cuts_no a0 a1 a2 a3 a4 a5 a6 a7 a8 a9 A c l _ rfl w hr hc h1 ha t h2 ad cap m h3 h4
  · exact cuts_out a0 a1 a2 a3 a4 a5 a6 a7 a8 a9 A c l _ rfl w hr hc t ad cap m hm.2.1 (by omega)
end Go.Proofs.Ytldiipomcenbkaa.Qw
