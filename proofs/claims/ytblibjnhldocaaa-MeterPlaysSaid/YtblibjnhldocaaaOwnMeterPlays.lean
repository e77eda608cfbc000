/- MeterPlays by hand; this text is printed by gen_plays.py. -/
import Derived.Test.YtblibjnhldocaaaHandP
namespace Go.Proofs.Ytblibjnhldocaaa.HandM
open Go.RowKit
set_option linter.unusedVariables false
set_option linter.unusedSimpArgs false
def PRel (w : World) (b q len : Nat) (high reason closed i : Value) (wr : World) : Prop :=
  ∃ (j : Nat) (cs : List Int) (hi rs : Int) (cl : Bool), j ≤ len ∧ i = .int .i64 j ∧ high = .int .i64 hi ∧ reason = .int .i64 rs ∧ closed = .bool cl ∧ My w wr b cs hi (if cl = true then 1 else 0) rs ∧ Ar wr q cs ∧ (cl = false → rs = 0) ∧ Small cs ((j : Int) * 4294967296) ∧ sumC cs ≤ (j : Int) * 4294967296
set_option maxRecDepth 100000 in
set_option maxHeartbeats 32000000 in
theorem plays_in (a : Option Addr) (cap : Nat) (l : List ActT) (len : Nat) (ask : Int) (w : World) (s : Acts w a len l) (h200 : len ≤ 200) : Calls Try.prog 8 #[.slice a len cap, .int .i64 ask] w fun e w' => e = .returned (.bool true) ∧ Below w.heap.size w w' := by
  have HL := Aside0.mk s
  clear s
  go_enter Try.func8, Try.ntmps8
  go_wp2_with (first
    | (go_at_call 9; with_reducible refine (anchor_c _).mono ?_; rintro e w1 ⟨rfl, hb⟩; have HB := Aside0.mk hb; clear hb)
    | (go_at_call 10; with_reducible refine (new_my w _ HB.out).mono ?_; rintro e w1 ⟨b, rfl, hm, -, -⟩; have HM := Aside0.mk hm; clear hm))
  have HA := Aside0.mk (Ar.new w1)
  have HM' := Aside0.mk (HM.out.alloc (.cells #[.int .i64 0, .int .i64 0, .int .i64 0, .int .i64 0, .int .i64 0, .int .i64 0, .int .i64 0, .int .i64 0, .int .i64 0, .int .i64 0, .int .i64 0, .int .i64 0, .int .i64 0, .int .i64 0, .int .i64 0, .int .i64 0] 42))
  have HQ := Aside0.mk (show w1.heap.size ≠ b by have := HM.out.mt.lt; omega)
  have QN := Aside0.mk HM.out.bel.size
  clear HM
  have HM := HM'
  clear HM'
  obtain ⟨q, hq⟩ : ∃ q, w1.heap.size = q := ⟨_, rfl⟩
  rw [hq] at HA HQ QN ⊢
  clear hq
  go_loopw [7, 8, 9, 26] (fun high reason closed i wr => PRel w b q len high reason closed i wr) (fun _ _ _ i _ => len - (intOf i).toNat)
  case atStart => exact ⟨0, zeros, 0, 0, false, by omega, rfl, rfl, rfl, rfl, HM.out, HA.out, fun _ => rfl, by simpa using small_zeros, by rw [sum_zeros]; decide⟩
  case round =>
    clear HM HA HB
    obtain ⟨j, cs, hi, rs, cl, hj, rfl, rfl, rfl, rfl, hM, hA, hcl, hS, hT⟩ := hrel
    have HM := Aside0.mk hM
    have HA := Aside0.mk hA
    have HS0 := Aside0.mk hS
    have HT0 := Aside0.mk hT
    clear hM hA hS hT
    by_cases hlt : j < len
    · have hlt2 : (j : Int) < len := by omega
      have J200 := Aside0.mk (show (j : Int) < 200 by omega)
      obtain ⟨ad, hAd, c0, c1, c2⟩ := HL.out.at hlt
      subst hAd
      obtain ⟨act, hact⟩ : ∃ act, l.getD j ⟨0, 0, 0⟩ = act := ⟨_, rfl⟩
      rw [hact] at c0 c1 c2
      obtain ⟨how, kd, n⟩ := act
      clear hact
      simp only at c0 c1 c2
      replace c0 := (HM.out.bel.cell (World.block_lt_of_cell? w _ c0)).trans c0
      replace c1 := (HM.out.bel.cell (World.block_lt_of_cell? w _ c1)).trans c1
      replace c2 := (HM.out.bel.cell (World.block_lt_of_cell? w _ c2)).trans c2
      go_upto_region 11 with fail
      have p0 : (wr.alloc (.cells #[.int .i64 how, .int .i64 kd, .int .i64 n] 34)).cell? ⟨wr.heap.size, 0, none⟩ = some (.int .i64 how) := World.cell?_alloc_new _ _ _ _
      have p1 : (wr.alloc (.cells #[.int .i64 how, .int .i64 kd, .int .i64 n] 34)).cell? ⟨wr.heap.size, 1, none⟩ = some (.int .i64 kd) := World.cell?_alloc_new _ _ _ _
      have p2 : (wr.alloc (.cells #[.int .i64 how, .int .i64 kd, .int .i64 n] 34)).cell? ⟨wr.heap.size, 2, none⟩ = some (.int .i64 n) := World.cell?_alloc_new _ _ _ _
      have HM' := Aside0.mk (HM.out.alloc (.cells #[.int .i64 how, .int .i64 kd, .int .i64 n] 34))
      have HA' := Aside0.mk (HA.out.alloc (.cells #[.int .i64 how, .int .i64 kd, .int .i64 n] 34))
      have PN := Aside0.mk (show wr.heap.size ≠ b by have := HM.out.mt.lt; omega)
      have PL := Aside0.mk (show wr.heap.size < (wr.alloc (.cells #[.int .i64 how, .int .i64 kd, .int .i64 n] 34)).heap.size by simp)
      obtain ⟨W, hW⟩ : ∃ W, wr.alloc (.cells #[.int .i64 how, .int .i64 kd, .int .i64 n] 34) = W := ⟨_, rfl⟩
      obtain ⟨p, hp⟩ : ∃ p, wr.heap.size = p := ⟨_, rfl⟩
      rw [hW] at HM' HA' PL p0 p1 p2 ⊢
      rw [hp] at PN PL p0 p1 p2 ⊢
      clear HM HA hW hp c0 c1 c2
      have HM := HM'
      have HA := HA'
      clear HM' HA'
      cases cl with
      | true =>
        have HM' : Aside0 (My w W b cs hi 1 rs) := HM
        clear HM
        have HM := HM'
        clear HM'
        by_cases k1 : how = 1
        · subst k1
          have HS := Aside0.mk (HS0.out.mono (m' := ((j : Int) + 1) * 4294967296) (by omega))
          have HT := Aside0.mk (show sumC cs ≤ ((j : Int) + 1) * 4294967296 by have := HT0.out; omega)
          clear HS0 HT0
          go_upto_region 30 with (go_at_call 13; with_reducible refine (count_no w b cs hi rs kd n _ HM.out).mono ?_; rintro e w1 ⟨rfl, hm, hn⟩; have p2' := (World.cell?_of_block (w := W) (a := ⟨p, 2, none⟩) (hn.block p PL.out PN.out)).trans p2; have HM' := Aside0.mk hm; have HA' := Aside0.mk (HA.out.near hn HQ.out); clear hm hn HM HA; have HM := HM'; have HA := HA'; clear HM' HA')
          go_upto_region 31 with fail
          go_wp2_with (refine load_list rfl 42 _ rfl ⟨q, 0, none⟩ rfl (cs.map (Value.int .i64)) _ HA.out.list Try.underlying42 rfl (by rw [List.length_map, HA.out.len]; kernel_rfl) ?_)
          go_loopw [13, 104] (fun total ix wr => ∃ k : Nat, k ≤ 16 ∧ ix = .int .i64 k ∧ total = .int .i64 (upto (fun x => x) cs k) ∧ My w wr b cs hi 1 rs ∧ Ar wr q cs) (fun _ ix _ => 16 - (intOf ix).toNat)
          case atStart => exact ⟨0, by omega, rfl, rfl, HM.out, HA.out⟩
          case round =>
            obtain ⟨k, hk, rfl, rfl, hM, hA⟩ := hrel
            clear HM HA
            have HM := Aside0.mk hM
            have HA := Aside0.mk hA
            clear hM hA
            by_cases hlt16 : k < 16
            · have hk2 : (k : Int) < 16 := by omega
              have X := fun W => idx_arr cs k hlt16 HA.out.len W
              obtain ⟨x, hx⟩ : ∃ x, cs.getD k 0 = x := ⟨_, rfl⟩
              rw [hx] at X
              obtain ⟨t, ht⟩ : ∃ t, upto (fun x => x) cs k = t := ⟨_, rfl⟩
              rw [ht]
              have hb : 0 ≤ t + x ∧ t + x ≤ 2305843009213693952 := by
                have h1 := upto_mono (fun x => x) cs (fun k _ => (HS.out k).1) 16 (Nat.le_refl _) (k + 1) (by omega)
                rw [show upto (fun x => x) cs (k + 1) = upto (fun x => x) cs k + cs.getD k 0 from rfl, ht, hx] at h1
                have h2 := HT.out
                unfold sumC at h2
                have h3 : ((j : Int) + 1) * 4294967296 ≤ 1000000000000 := by have := J200.out; omega
                omega
              have hb1 := hb.1
              have hb2 := hb.2
              have G := Aside0.mk (show got cs k = x by unfold got; rw [if_pos (by omega), Int.toNat_natCast]; exact hx)
              have E := Aside0.mk (show upto (fun x => x) cs (k + 1) = t + x by rw [show upto (fun x => x) cs (k + 1) = upto (fun x => x) cs k + cs.getD k 0 from rfl, ht, hx])
              clear hx ht hb
              go_wp2_with (go_at_call 14; with_reducible refine (get_my w b cs hi 1 rs k _ HM.out x G.out).mono ?_; rintro e w1 ⟨rfl, rfl⟩)
              go_roundw
              case rel => exact ⟨k + 1, by omega, by go_num, by rw [E.out], HM.out, HA.out⟩
              case measure => simp [intOf]; omega
            · have hge16 : 16 ≤ (k : Int) := by omega
              have e16 : k = 16 := by omega
              have ES := Aside0.mk (show upto (fun x => x) cs k = sumC cs by rw [e16]; rfl)
              clear e16
              rw [ES.out]
              have S2 := Aside0.mk (fun (k : Nat) (_ : k < 16) => (HS.out k).1)
              have T2 := Aside0.mk (show sumC cs ≤ 2305843009213693952 by have h2 := HT.out; have := J200.out; omega)
              go_wp2_with (first
                | (go_at_call 17; with_reducible refine (shut_my w b cs hi rs _ HM.out).mono ?_; rintro e w1 ⟨rfl, rfl⟩)
                | (go_at_call 12; with_reducible refine (high_my w b cs hi 1 rs _ HM.out).mono ?_; rintro e w1 ⟨rfl, rfl⟩)
                | (go_at_call 15; with_reducible refine (total_my w b cs hi 1 rs _ HM.out S2.out T2.out).mono ?_; rintro e w1 ⟨rfl, rfl⟩))
              go_roundw
              case rel => exact ⟨j + 1, cs, hi, rs, true, by omega, by go_num, rfl, rfl, rfl, HM.out, HA.out, fun h => (by first | rfl | cases h), by simpa using HS.out, by simpa using HT.out⟩
              case measure => simp [intOf]; omega
        · by_cases k2 : how = 2
          · subst k2
            have HS := Aside0.mk (HS0.out.mono (m' := ((j : Int) + 1) * 4294967296) (by omega))
            have HT := Aside0.mk (show sumC cs ≤ ((j : Int) + 1) * 4294967296 by have := HT0.out; omega)
            clear HS0 HT0
            go_upto_region 30 with (go_at_call 11; with_reducible refine (mark_no w b cs hi rs n _ HM.out).mono ?_; rintro e w1 ⟨rfl, hm, hn⟩; have p2' := (World.cell?_of_block (w := W) (a := ⟨p, 2, none⟩) (hn.block p PL.out PN.out)).trans p2; have HM' := Aside0.mk hm; have HA' := Aside0.mk (HA.out.near hn HQ.out); clear hm hn HM HA; have HM := HM'; have HA := HA'; clear HM' HA')
            go_upto_region 31 with fail
            go_wp2_with (refine load_list rfl 42 _ rfl ⟨q, 0, none⟩ rfl (cs.map (Value.int .i64)) _ HA.out.list Try.underlying42 rfl (by rw [List.length_map, HA.out.len]; kernel_rfl) ?_)
            go_loopw [13, 104] (fun total ix wr => ∃ k : Nat, k ≤ 16 ∧ ix = .int .i64 k ∧ total = .int .i64 (upto (fun x => x) cs k) ∧ My w wr b cs hi 1 rs ∧ Ar wr q cs) (fun _ ix _ => 16 - (intOf ix).toNat)
            case atStart => exact ⟨0, by omega, rfl, rfl, HM.out, HA.out⟩
            case round =>
              obtain ⟨k, hk, rfl, rfl, hM, hA⟩ := hrel
              clear HM HA
              have HM := Aside0.mk hM
              have HA := Aside0.mk hA
              clear hM hA
              by_cases hlt16 : k < 16
              · have hk2 : (k : Int) < 16 := by omega
                have X := fun W => idx_arr cs k hlt16 HA.out.len W
                obtain ⟨x, hx⟩ : ∃ x, cs.getD k 0 = x := ⟨_, rfl⟩
                rw [hx] at X
                obtain ⟨t, ht⟩ : ∃ t, upto (fun x => x) cs k = t := ⟨_, rfl⟩
                rw [ht]
                have hb : 0 ≤ t + x ∧ t + x ≤ 2305843009213693952 := by
                  have h1 := upto_mono (fun x => x) cs (fun k _ => (HS.out k).1) 16 (Nat.le_refl _) (k + 1) (by omega)
                  rw [show upto (fun x => x) cs (k + 1) = upto (fun x => x) cs k + cs.getD k 0 from rfl, ht, hx] at h1
                  have h2 := HT.out
                  unfold sumC at h2
                  have h3 : ((j : Int) + 1) * 4294967296 ≤ 1000000000000 := by have := J200.out; omega
                  omega
                have hb1 := hb.1
                have hb2 := hb.2
                have G := Aside0.mk (show got cs k = x by unfold got; rw [if_pos (by omega), Int.toNat_natCast]; exact hx)
                have E := Aside0.mk (show upto (fun x => x) cs (k + 1) = t + x by rw [show upto (fun x => x) cs (k + 1) = upto (fun x => x) cs k + cs.getD k 0 from rfl, ht, hx])
                clear hx ht hb
                go_wp2_with (go_at_call 14; with_reducible refine (get_my w b cs hi 1 rs k _ HM.out x G.out).mono ?_; rintro e w1 ⟨rfl, rfl⟩)
                go_roundw
                case rel => exact ⟨k + 1, by omega, by go_num, by rw [E.out], HM.out, HA.out⟩
                case measure => simp [intOf]; omega
              · have hge16 : 16 ≤ (k : Int) := by omega
                have e16 : k = 16 := by omega
                have ES := Aside0.mk (show upto (fun x => x) cs k = sumC cs by rw [e16]; rfl)
                clear e16
                rw [ES.out]
                have S2 := Aside0.mk (fun (k : Nat) (_ : k < 16) => (HS.out k).1)
                have T2 := Aside0.mk (show sumC cs ≤ 2305843009213693952 by have h2 := HT.out; have := J200.out; omega)
                go_wp2_with (first
                  | (go_at_call 17; with_reducible refine (shut_my w b cs hi rs _ HM.out).mono ?_; rintro e w1 ⟨rfl, rfl⟩)
                  | (go_at_call 12; with_reducible refine (high_my w b cs hi 1 rs _ HM.out).mono ?_; rintro e w1 ⟨rfl, rfl⟩)
                  | (go_at_call 15; with_reducible refine (total_my w b cs hi 1 rs _ HM.out S2.out T2.out).mono ?_; rintro e w1 ⟨rfl, rfl⟩))
                go_roundw
                case rel => exact ⟨j + 1, cs, hi, rs, true, by omega, by go_num, rfl, rfl, rfl, HM.out, HA.out, fun h => (by first | rfl | cases h), by simpa using HS.out, by simpa using HT.out⟩
                case measure => simp [intOf]; omega
          · by_cases k3 : how = 3
            · subst k3
              have HS := Aside0.mk (HS0.out.mono (m' := ((j : Int) + 1) * 4294967296) (by omega))
              have HT := Aside0.mk (show sumC cs ≤ ((j : Int) + 1) * 4294967296 by have := HT0.out; omega)
              clear HS0 HT0
              go_upto_region 30 with (go_at_call 16; with_reducible refine (reclose_my w b cs hi rs n _ HM.out).mono ?_; rintro e w1 ⟨rfl, hm, hn⟩; have p2' := (World.cell?_of_block (w := W) (a := ⟨p, 2, none⟩) (hn.block p PL.out PN.out)).trans p2; have HM' := Aside0.mk hm; have HA' := Aside0.mk (HA.out.near hn HQ.out); clear hm hn HM HA; have HM := HM'; have HA := HA'; clear HM' HA')
              go_upto_region 31 with fail
              go_wp2_with (refine load_list rfl 42 _ rfl ⟨q, 0, none⟩ rfl (cs.map (Value.int .i64)) _ HA.out.list Try.underlying42 rfl (by rw [List.length_map, HA.out.len]; kernel_rfl) ?_)
              go_loopw [13, 104] (fun total ix wr => ∃ k : Nat, k ≤ 16 ∧ ix = .int .i64 k ∧ total = .int .i64 (upto (fun x => x) cs k) ∧ My w wr b cs hi 1 rs ∧ Ar wr q cs) (fun _ ix _ => 16 - (intOf ix).toNat)
              case atStart => exact ⟨0, by omega, rfl, rfl, HM.out, HA.out⟩
              case round =>
                obtain ⟨k, hk, rfl, rfl, hM, hA⟩ := hrel
                clear HM HA
                have HM := Aside0.mk hM
                have HA := Aside0.mk hA
                clear hM hA
                by_cases hlt16 : k < 16
                · have hk2 : (k : Int) < 16 := by omega
                  have X := fun W => idx_arr cs k hlt16 HA.out.len W
                  obtain ⟨x, hx⟩ : ∃ x, cs.getD k 0 = x := ⟨_, rfl⟩
                  rw [hx] at X
                  obtain ⟨t, ht⟩ : ∃ t, upto (fun x => x) cs k = t := ⟨_, rfl⟩
                  rw [ht]
                  have hb : 0 ≤ t + x ∧ t + x ≤ 2305843009213693952 := by
                    have h1 := upto_mono (fun x => x) cs (fun k _ => (HS.out k).1) 16 (Nat.le_refl _) (k + 1) (by omega)
                    rw [show upto (fun x => x) cs (k + 1) = upto (fun x => x) cs k + cs.getD k 0 from rfl, ht, hx] at h1
                    have h2 := HT.out
                    unfold sumC at h2
                    have h3 : ((j : Int) + 1) * 4294967296 ≤ 1000000000000 := by have := J200.out; omega
                    omega
                  have hb1 := hb.1
                  have hb2 := hb.2
                  have G := Aside0.mk (show got cs k = x by unfold got; rw [if_pos (by omega), Int.toNat_natCast]; exact hx)
                  have E := Aside0.mk (show upto (fun x => x) cs (k + 1) = t + x by rw [show upto (fun x => x) cs (k + 1) = upto (fun x => x) cs k + cs.getD k 0 from rfl, ht, hx])
                  clear hx ht hb
                  go_wp2_with (go_at_call 14; with_reducible refine (get_my w b cs hi 1 rs k _ HM.out x G.out).mono ?_; rintro e w1 ⟨rfl, rfl⟩)
                  go_roundw
                  case rel => exact ⟨k + 1, by omega, by go_num, by rw [E.out], HM.out, HA.out⟩
                  case measure => simp [intOf]; omega
                · have hge16 : 16 ≤ (k : Int) := by omega
                  have e16 : k = 16 := by omega
                  have ES := Aside0.mk (show upto (fun x => x) cs k = sumC cs by rw [e16]; rfl)
                  clear e16
                  rw [ES.out]
                  have S2 := Aside0.mk (fun (k : Nat) (_ : k < 16) => (HS.out k).1)
                  have T2 := Aside0.mk (show sumC cs ≤ 2305843009213693952 by have h2 := HT.out; have := J200.out; omega)
                  go_wp2_with (first
                    | (go_at_call 17; with_reducible refine (shut_my w b cs hi rs _ HM.out).mono ?_; rintro e w1 ⟨rfl, rfl⟩)
                    | (go_at_call 12; with_reducible refine (high_my w b cs hi 1 rs _ HM.out).mono ?_; rintro e w1 ⟨rfl, rfl⟩)
                    | (go_at_call 15; with_reducible refine (total_my w b cs hi 1 rs _ HM.out S2.out T2.out).mono ?_; rintro e w1 ⟨rfl, rfl⟩))
                  go_roundw
                  case rel => exact ⟨j + 1, cs, hi, rs, true, by omega, by go_num, rfl, rfl, rfl, HM.out, HA.out, fun h => (by first | rfl | cases h), by simpa using HS.out, by simpa using HT.out⟩
                  case measure => simp [intOf]; omega
            · have b1 : (how == 1) = false := beq_eq_false_iff_ne.mpr k1
              have b2 : (how == 2) = false := beq_eq_false_iff_ne.mpr k2
              have b3 : (how == 3) = false := beq_eq_false_iff_ne.mpr k3
              clear k1 k2 k3
              have HS := Aside0.mk (HS0.out.mono (m' := ((j : Int) + 1) * 4294967296) (by omega))
              have HT := Aside0.mk (show sumC cs ≤ ((j : Int) + 1) * 4294967296 by have := HT0.out; omega)
              clear HS0 HT0
              go_upto_region 30 with fail
              go_upto_region 31 with fail
              go_wp2_with (refine load_list rfl 42 _ rfl ⟨q, 0, none⟩ rfl (cs.map (Value.int .i64)) _ HA.out.list Try.underlying42 rfl (by rw [List.length_map, HA.out.len]; kernel_rfl) ?_)
              go_loopw [13, 104] (fun total ix wr => ∃ k : Nat, k ≤ 16 ∧ ix = .int .i64 k ∧ total = .int .i64 (upto (fun x => x) cs k) ∧ My w wr b cs hi 1 rs ∧ Ar wr q cs) (fun _ ix _ => 16 - (intOf ix).toNat)
              case atStart => exact ⟨0, by omega, rfl, rfl, HM.out, HA.out⟩
              case round =>
                obtain ⟨k, hk, rfl, rfl, hM, hA⟩ := hrel
                clear HM HA
                have HM := Aside0.mk hM
                have HA := Aside0.mk hA
                clear hM hA
                by_cases hlt16 : k < 16
                · have hk2 : (k : Int) < 16 := by omega
                  have X := fun W => idx_arr cs k hlt16 HA.out.len W
                  obtain ⟨x, hx⟩ : ∃ x, cs.getD k 0 = x := ⟨_, rfl⟩
                  rw [hx] at X
                  obtain ⟨t, ht⟩ : ∃ t, upto (fun x => x) cs k = t := ⟨_, rfl⟩
                  rw [ht]
                  have hb : 0 ≤ t + x ∧ t + x ≤ 2305843009213693952 := by
                    have h1 := upto_mono (fun x => x) cs (fun k _ => (HS.out k).1) 16 (Nat.le_refl _) (k + 1) (by omega)
                    rw [show upto (fun x => x) cs (k + 1) = upto (fun x => x) cs k + cs.getD k 0 from rfl, ht, hx] at h1
                    have h2 := HT.out
                    unfold sumC at h2
                    have h3 : ((j : Int) + 1) * 4294967296 ≤ 1000000000000 := by have := J200.out; omega
                    omega
                  have hb1 := hb.1
                  have hb2 := hb.2
                  have G := Aside0.mk (show got cs k = x by unfold got; rw [if_pos (by omega), Int.toNat_natCast]; exact hx)
                  have E := Aside0.mk (show upto (fun x => x) cs (k + 1) = t + x by rw [show upto (fun x => x) cs (k + 1) = upto (fun x => x) cs k + cs.getD k 0 from rfl, ht, hx])
                  clear hx ht hb
                  go_wp2_with (go_at_call 14; with_reducible refine (get_my w b cs hi 1 rs k _ HM.out x G.out).mono ?_; rintro e w1 ⟨rfl, rfl⟩)
                  go_roundw
                  case rel => exact ⟨k + 1, by omega, by go_num, by rw [E.out], HM.out, HA.out⟩
                  case measure => simp [intOf]; omega
                · have hge16 : 16 ≤ (k : Int) := by omega
                  have e16 : k = 16 := by omega
                  have ES := Aside0.mk (show upto (fun x => x) cs k = sumC cs by rw [e16]; rfl)
                  clear e16
                  rw [ES.out]
                  have S2 := Aside0.mk (fun (k : Nat) (_ : k < 16) => (HS.out k).1)
                  have T2 := Aside0.mk (show sumC cs ≤ 2305843009213693952 by have h2 := HT.out; have := J200.out; omega)
                  go_wp2_with (first
                    | (go_at_call 17; with_reducible refine (shut_my w b cs hi rs _ HM.out).mono ?_; rintro e w1 ⟨rfl, rfl⟩)
                    | (go_at_call 12; with_reducible refine (high_my w b cs hi 1 rs _ HM.out).mono ?_; rintro e w1 ⟨rfl, rfl⟩)
                    | (go_at_call 15; with_reducible refine (total_my w b cs hi 1 rs _ HM.out S2.out T2.out).mono ?_; rintro e w1 ⟨rfl, rfl⟩))
                  go_roundw
                  case rel => exact ⟨j + 1, cs, hi, rs, true, by omega, by go_num, rfl, rfl, rfl, HM.out, HA.out, fun h => (by first | rfl | cases h), by simpa using HS.out, by simpa using HT.out⟩
                  case measure => simp [intOf]; omega
      | false =>
        obtain rfl := hcl rfl
        have HM' : Aside0 (My w W b cs hi 0 0) := HM
        clear HM
        have HM := HM'
        clear HM'
        by_cases k1 : how = 1
        · subst k1
          by_cases hok : okC kd n
          · have OK := Aside0.mk hok
            obtain ⟨h1, h2, h3, h4⟩ := hok
            obtain ⟨k, rfl⟩ : ∃ k : Nat, kd = k := ⟨kd.toNat, by omega⟩
            have hs2 := HS0.out.counted' k n (m' := ((j : Int) + 1) * 4294967296) (by omega)
            have hsm := HS0.out k
            have ht2 := sum_counted cs k n HA.out.len
            have hg2 := gain_nonneg k n
            have ec : counted cs k n = cs.set k (cs.getD k 0 + n) := by unfold counted; rw [if_pos OK.out, Int.toNat_natCast]
            have SB := Aside0.mk (HS0.out.mono (m' := 4611686014132420608) (by have := J200.out; omega))
            obtain ⟨cs2, hc2⟩ : ∃ cs2, counted cs k n = cs2 := ⟨_, rfl⟩
            rw [hc2] at hs2 ht2 ec
            have HS := Aside0.mk hs2
            have HT := Aside0.mk (show sumC cs2 ≤ ((j : Int) + 1) * 4294967296 by have := HT0.out; omega)
            obtain ⟨x, hx⟩ : ∃ x, cs.getD k 0 = x := ⟨_, rfl⟩
            rw [hx] at ec hsm
            have hx0 := hsm.1
            have hx1 : x ≤ 4294967296000 := by have := J200.out; omega
            have C2 := Aside0.mk hc2
            have EC := Aside0.mk ec
            have X := Aside0.mk hx
            clear hs2 ht2 hg2 ec hc2 HS0 HT0 hsm hx
            go_upto_region 18 with (go_at_call 13; with_reducible refine (count_my w b cs hi 0 k n _ HM.out true (decide_eq_true OK.out) cs2 C2.out SB.out).mono ?_; rintro e w1 ⟨rfl, hm, hn⟩; have PB := Aside0.mk (fun i => World.cell?_of_block (w := W) (a := ⟨p, i, none⟩) (hn.block p PL.out PN.out)); have HM' := Aside0.mk hm; have HA' := Aside0.mk (HA.out.near hn HQ.out); clear hm hn HM HA; have HM := HM'; have HA := HA'; clear HM' HA')
            have p1' := (PB.out 1).trans p1
            have p2' := (PB.out 2).trans p2
            have q1 := HA.out.cell k (by omega)
            rw [X.out] at q1
            have q2 := HA.out.free k
            go_region
            go_upto_region 30 with fail
            have HM' := Aside0.mk (HM.out.beside (Near.trans (Near.drew q _) (Near.set q k _ (.int .i64 (x + n)))) QN.out HQ.out.symm)
            have HA' : Aside0 (Ar _ q cs2) := Aside0.mk (EC.out ▸ (Ar.near HA.out (Near.drew b _) HQ.out).set k (by omega) (x + n))
            clear HM HA
            have HM := HM'
            have HA := HA'
            clear HM' HA' PB p1' p2' q1 q2
            go_upto_region 31 with fail
            go_wp2_with (refine load_list rfl 42 _ rfl ⟨q, 0, none⟩ rfl (cs2.map (Value.int .i64)) _ HA.out.list Try.underlying42 rfl (by rw [List.length_map, HA.out.len]; kernel_rfl) ?_)
            go_loopw [13, 104] (fun total ix wr => ∃ k : Nat, k ≤ 16 ∧ ix = .int .i64 k ∧ total = .int .i64 (upto (fun x => x) cs2 k) ∧ My w wr b cs2 hi 0 0 ∧ Ar wr q cs2) (fun _ ix _ => 16 - (intOf ix).toNat)
            case atStart => exact ⟨0, by omega, rfl, rfl, HM.out, HA.out⟩
            case round =>
              obtain ⟨k, hk, rfl, rfl, hM, hA⟩ := hrel
              clear HM HA
              have HM := Aside0.mk hM
              have HA := Aside0.mk hA
              clear hM hA
              by_cases hlt16 : k < 16
              · have hk2 : (k : Int) < 16 := by omega
                have X := fun W => idx_arr cs2 k hlt16 HA.out.len W
                obtain ⟨x, hx⟩ : ∃ x, cs2.getD k 0 = x := ⟨_, rfl⟩
                rw [hx] at X
                obtain ⟨t, ht⟩ : ∃ t, upto (fun x => x) cs2 k = t := ⟨_, rfl⟩
                rw [ht]
                have hb : 0 ≤ t + x ∧ t + x ≤ 2305843009213693952 := by
                  have h1 := upto_mono (fun x => x) cs2 (fun k _ => (HS.out k).1) 16 (Nat.le_refl _) (k + 1) (by omega)
                  rw [show upto (fun x => x) cs2 (k + 1) = upto (fun x => x) cs2 k + cs2.getD k 0 from rfl, ht, hx] at h1
                  have h2 := HT.out
                  unfold sumC at h2
                  have h3 : ((j : Int) + 1) * 4294967296 ≤ 1000000000000 := by have := J200.out; omega
                  omega
                have hb1 := hb.1
                have hb2 := hb.2
                have G := Aside0.mk (show got cs2 k = x by unfold got; rw [if_pos (by omega), Int.toNat_natCast]; exact hx)
                have E := Aside0.mk (show upto (fun x => x) cs2 (k + 1) = t + x by rw [show upto (fun x => x) cs2 (k + 1) = upto (fun x => x) cs2 k + cs2.getD k 0 from rfl, ht, hx])
                clear hx ht hb
                go_wp2_with (go_at_call 14; with_reducible refine (get_my w b cs2 hi 0 0 k _ HM.out x G.out).mono ?_; rintro e w1 ⟨rfl, rfl⟩)
                go_roundw
                case rel => exact ⟨k + 1, by omega, by go_num, by rw [E.out], HM.out, HA.out⟩
                case measure => simp [intOf]; omega
              · have hge16 : 16 ≤ (k : Int) := by omega
                have e16 : k = 16 := by omega
                have ES := Aside0.mk (show upto (fun x => x) cs2 k = sumC cs2 by rw [e16]; rfl)
                clear e16
                rw [ES.out]
                have S2 := Aside0.mk (fun (k : Nat) (_ : k < 16) => (HS.out k).1)
                have T2 := Aside0.mk (show sumC cs2 ≤ 2305843009213693952 by have h2 := HT.out; have := J200.out; omega)
                go_wp2_with (first
                  | (go_at_call 17; with_reducible refine (open_my w b cs2 hi 0 _ HM.out).mono ?_; rintro e w1 ⟨rfl, rfl⟩)
                  | (go_at_call 12; with_reducible refine (high_my w b cs2 hi 0 0 _ HM.out).mono ?_; rintro e w1 ⟨rfl, rfl⟩)
                  | (go_at_call 15; with_reducible refine (total_my w b cs2 hi 0 0 _ HM.out S2.out T2.out).mono ?_; rintro e w1 ⟨rfl, rfl⟩))
                go_roundw
                case rel => exact ⟨j + 1, cs2, hi, 0, false, by omega, by go_num, rfl, rfl, rfl, HM.out, HA.out, fun h => (by first | rfl | cases h), by simpa using HS.out, by simpa using HT.out⟩
                case measure => simp [intOf]; omega
          · have hkn' : kd < 0 ∨ (0 ≤ kd ∧ 16 ≤ kd) ∨ (0 ≤ kd ∧ kd < 16 ∧ n < 0) ∨ (0 ≤ kd ∧ kd < 16 ∧ 0 ≤ n ∧ 4294967296 < n) := by unfold okC at hok; omega
            have NO := Aside0.mk (show counted cs kd n = cs by unfold counted; rw [if_neg hok])
            have NK := Aside0.mk (decide_eq_false hok)
            have SB := Aside0.mk (HS0.out.mono (m' := 4611686014132420608) (by have := J200.out; omega))
            clear hok
            rcases hkn' with g | ⟨g, g1⟩ | ⟨g, g1, g2⟩ | ⟨g, g1, g2, g3⟩
            all_goals (
              have HS := Aside0.mk (HS0.out.mono (m' := ((j : Int) + 1) * 4294967296) (by omega))
              have HT := Aside0.mk (show sumC cs ≤ ((j : Int) + 1) * 4294967296 by have := HT0.out; omega)
              clear HS0 HT0
              go_upto_region 30 with (go_at_call 13; with_reducible refine (count_my w b cs hi 0 kd n _ HM.out false NK.out cs NO.out SB.out).mono ?_; rintro e w1 ⟨rfl, hm, hn⟩; have p2' := (World.cell?_of_block (w := W) (a := ⟨p, 2, none⟩) (hn.block p PL.out PN.out)).trans p2; have HM' := Aside0.mk hm; have HA' := Aside0.mk (HA.out.near hn HQ.out); clear hm hn HM HA; have HM := HM'; have HA := HA'; clear HM' HA')
              go_upto_region 31 with fail
              go_wp2_with (refine load_list rfl 42 _ rfl ⟨q, 0, none⟩ rfl (cs.map (Value.int .i64)) _ HA.out.list Try.underlying42 rfl (by rw [List.length_map, HA.out.len]; kernel_rfl) ?_)
              go_loopw [13, 104] (fun total ix wr => ∃ k : Nat, k ≤ 16 ∧ ix = .int .i64 k ∧ total = .int .i64 (upto (fun x => x) cs k) ∧ My w wr b cs hi 0 0 ∧ Ar wr q cs) (fun _ ix _ => 16 - (intOf ix).toNat)
              case atStart => exact ⟨0, by omega, rfl, rfl, HM.out, HA.out⟩
              case round =>
                obtain ⟨k, hk, rfl, rfl, hM, hA⟩ := hrel
                clear HM HA
                have HM := Aside0.mk hM
                have HA := Aside0.mk hA
                clear hM hA
                by_cases hlt16 : k < 16
                · have hk2 : (k : Int) < 16 := by omega
                  have X := fun W => idx_arr cs k hlt16 HA.out.len W
                  obtain ⟨x, hx⟩ : ∃ x, cs.getD k 0 = x := ⟨_, rfl⟩
                  rw [hx] at X
                  obtain ⟨t, ht⟩ : ∃ t, upto (fun x => x) cs k = t := ⟨_, rfl⟩
                  rw [ht]
                  have hb : 0 ≤ t + x ∧ t + x ≤ 2305843009213693952 := by
                    have h1 := upto_mono (fun x => x) cs (fun k _ => (HS.out k).1) 16 (Nat.le_refl _) (k + 1) (by omega)
                    rw [show upto (fun x => x) cs (k + 1) = upto (fun x => x) cs k + cs.getD k 0 from rfl, ht, hx] at h1
                    have h2 := HT.out
                    unfold sumC at h2
                    have h3 : ((j : Int) + 1) * 4294967296 ≤ 1000000000000 := by have := J200.out; omega
                    omega
                  have hb1 := hb.1
                  have hb2 := hb.2
                  have G := Aside0.mk (show got cs k = x by unfold got; rw [if_pos (by omega), Int.toNat_natCast]; exact hx)
                  have E := Aside0.mk (show upto (fun x => x) cs (k + 1) = t + x by rw [show upto (fun x => x) cs (k + 1) = upto (fun x => x) cs k + cs.getD k 0 from rfl, ht, hx])
                  clear hx ht hb
                  go_wp2_with (go_at_call 14; with_reducible refine (get_my w b cs hi 0 0 k _ HM.out x G.out).mono ?_; rintro e w1 ⟨rfl, rfl⟩)
                  go_roundw
                  case rel => exact ⟨k + 1, by omega, by go_num, by rw [E.out], HM.out, HA.out⟩
                  case measure => simp [intOf]; omega
                · have hge16 : 16 ≤ (k : Int) := by omega
                  have e16 : k = 16 := by omega
                  have ES := Aside0.mk (show upto (fun x => x) cs k = sumC cs by rw [e16]; rfl)
                  clear e16
                  rw [ES.out]
                  have S2 := Aside0.mk (fun (k : Nat) (_ : k < 16) => (HS.out k).1)
                  have T2 := Aside0.mk (show sumC cs ≤ 2305843009213693952 by have h2 := HT.out; have := J200.out; omega)
                  go_wp2_with (first
                    | (go_at_call 17; with_reducible refine (open_my w b cs hi 0 _ HM.out).mono ?_; rintro e w1 ⟨rfl, rfl⟩)
                    | (go_at_call 12; with_reducible refine (high_my w b cs hi 0 0 _ HM.out).mono ?_; rintro e w1 ⟨rfl, rfl⟩)
                    | (go_at_call 15; with_reducible refine (total_my w b cs hi 0 0 _ HM.out S2.out T2.out).mono ?_; rintro e w1 ⟨rfl, rfl⟩))
                  go_roundw
                  case rel => exact ⟨j + 1, cs, hi, 0, false, by omega, by go_num, rfl, rfl, rfl, HM.out, HA.out, fun h => (by first | rfl | cases h), by simpa using HS.out, by simpa using HT.out⟩
                  case measure => simp [intOf]; omega)
        · by_cases k2 : how = 2
          · subst k2
            by_cases hhi : hi < n
            · have HS := Aside0.mk (HS0.out.mono (m' := ((j : Int) + 1) * 4294967296) (by omega))
              have HT := Aside0.mk (show sumC cs ≤ ((j : Int) + 1) * 4294967296 by have := HT0.out; omega)
              clear HS0 HT0
              go_upto_region 30 with (go_at_call 11; with_reducible refine (mark_my w b cs hi 0 n _ HM.out true (decide_eq_true hhi) n (by omega)).mono ?_; rintro e w1 ⟨rfl, hm, hn⟩; have p2' := (World.cell?_of_block (w := W) (a := ⟨p, 2, none⟩) (hn.block p PL.out PN.out)).trans p2; have HM' := Aside0.mk hm; have HA' := Aside0.mk (HA.out.near hn HQ.out); clear hm hn HM HA; have HM := HM'; have HA := HA'; clear HM' HA')
              go_upto_region 31 with fail
              go_wp2_with (refine load_list rfl 42 _ rfl ⟨q, 0, none⟩ rfl (cs.map (Value.int .i64)) _ HA.out.list Try.underlying42 rfl (by rw [List.length_map, HA.out.len]; kernel_rfl) ?_)
              go_loopw [13, 104] (fun total ix wr => ∃ k : Nat, k ≤ 16 ∧ ix = .int .i64 k ∧ total = .int .i64 (upto (fun x => x) cs k) ∧ My w wr b cs n 0 0 ∧ Ar wr q cs) (fun _ ix _ => 16 - (intOf ix).toNat)
              case atStart => exact ⟨0, by omega, rfl, rfl, HM.out, HA.out⟩
              case round =>
                obtain ⟨k, hk, rfl, rfl, hM, hA⟩ := hrel
                clear HM HA
                have HM := Aside0.mk hM
                have HA := Aside0.mk hA
                clear hM hA
                by_cases hlt16 : k < 16
                · have hk2 : (k : Int) < 16 := by omega
                  have X := fun W => idx_arr cs k hlt16 HA.out.len W
                  obtain ⟨x, hx⟩ : ∃ x, cs.getD k 0 = x := ⟨_, rfl⟩
                  rw [hx] at X
                  obtain ⟨t, ht⟩ : ∃ t, upto (fun x => x) cs k = t := ⟨_, rfl⟩
                  rw [ht]
                  have hb : 0 ≤ t + x ∧ t + x ≤ 2305843009213693952 := by
                    have h1 := upto_mono (fun x => x) cs (fun k _ => (HS.out k).1) 16 (Nat.le_refl _) (k + 1) (by omega)
                    rw [show upto (fun x => x) cs (k + 1) = upto (fun x => x) cs k + cs.getD k 0 from rfl, ht, hx] at h1
                    have h2 := HT.out
                    unfold sumC at h2
                    have h3 : ((j : Int) + 1) * 4294967296 ≤ 1000000000000 := by have := J200.out; omega
                    omega
                  have hb1 := hb.1
                  have hb2 := hb.2
                  have G := Aside0.mk (show got cs k = x by unfold got; rw [if_pos (by omega), Int.toNat_natCast]; exact hx)
                  have E := Aside0.mk (show upto (fun x => x) cs (k + 1) = t + x by rw [show upto (fun x => x) cs (k + 1) = upto (fun x => x) cs k + cs.getD k 0 from rfl, ht, hx])
                  clear hx ht hb
                  go_wp2_with (go_at_call 14; with_reducible refine (get_my w b cs n 0 0 k _ HM.out x G.out).mono ?_; rintro e w1 ⟨rfl, rfl⟩)
                  go_roundw
                  case rel => exact ⟨k + 1, by omega, by go_num, by rw [E.out], HM.out, HA.out⟩
                  case measure => simp [intOf]; omega
                · have hge16 : 16 ≤ (k : Int) := by omega
                  have e16 : k = 16 := by omega
                  have ES := Aside0.mk (show upto (fun x => x) cs k = sumC cs by rw [e16]; rfl)
                  clear e16
                  rw [ES.out]
                  have S2 := Aside0.mk (fun (k : Nat) (_ : k < 16) => (HS.out k).1)
                  have T2 := Aside0.mk (show sumC cs ≤ 2305843009213693952 by have h2 := HT.out; have := J200.out; omega)
                  go_wp2_with (first
                    | (go_at_call 17; with_reducible refine (open_my w b cs n 0 _ HM.out).mono ?_; rintro e w1 ⟨rfl, rfl⟩)
                    | (go_at_call 12; with_reducible refine (high_my w b cs n 0 0 _ HM.out).mono ?_; rintro e w1 ⟨rfl, rfl⟩)
                    | (go_at_call 15; with_reducible refine (total_my w b cs n 0 0 _ HM.out S2.out T2.out).mono ?_; rintro e w1 ⟨rfl, rfl⟩))
                  go_roundw
                  case rel => exact ⟨j + 1, cs, n, 0, false, by omega, by go_num, rfl, rfl, rfl, HM.out, HA.out, fun h => (by first | rfl | cases h), by simpa using HS.out, by simpa using HT.out⟩
                  case measure => simp [intOf]; omega
            · have hhi2 : n ≤ hi := by omega
              have HS := Aside0.mk (HS0.out.mono (m' := ((j : Int) + 1) * 4294967296) (by omega))
              have HT := Aside0.mk (show sumC cs ≤ ((j : Int) + 1) * 4294967296 by have := HT0.out; omega)
              clear HS0 HT0
              go_upto_region 30 with (go_at_call 11; with_reducible refine (mark_my w b cs hi 0 n _ HM.out false (decide_eq_false hhi) hi (by omega)).mono ?_; rintro e w1 ⟨rfl, hm, hn⟩; have p2' := (World.cell?_of_block (w := W) (a := ⟨p, 2, none⟩) (hn.block p PL.out PN.out)).trans p2; have HM' := Aside0.mk hm; have HA' := Aside0.mk (HA.out.near hn HQ.out); clear hm hn HM HA; have HM := HM'; have HA := HA'; clear HM' HA')
              go_upto_region 31 with fail
              go_wp2_with (refine load_list rfl 42 _ rfl ⟨q, 0, none⟩ rfl (cs.map (Value.int .i64)) _ HA.out.list Try.underlying42 rfl (by rw [List.length_map, HA.out.len]; kernel_rfl) ?_)
              go_loopw [13, 104] (fun total ix wr => ∃ k : Nat, k ≤ 16 ∧ ix = .int .i64 k ∧ total = .int .i64 (upto (fun x => x) cs k) ∧ My w wr b cs hi 0 0 ∧ Ar wr q cs) (fun _ ix _ => 16 - (intOf ix).toNat)
              case atStart => exact ⟨0, by omega, rfl, rfl, HM.out, HA.out⟩
              case round =>
                obtain ⟨k, hk, rfl, rfl, hM, hA⟩ := hrel
                clear HM HA
                have HM := Aside0.mk hM
                have HA := Aside0.mk hA
                clear hM hA
                by_cases hlt16 : k < 16
                · have hk2 : (k : Int) < 16 := by omega
                  have X := fun W => idx_arr cs k hlt16 HA.out.len W
                  obtain ⟨x, hx⟩ : ∃ x, cs.getD k 0 = x := ⟨_, rfl⟩
                  rw [hx] at X
                  obtain ⟨t, ht⟩ : ∃ t, upto (fun x => x) cs k = t := ⟨_, rfl⟩
                  rw [ht]
                  have hb : 0 ≤ t + x ∧ t + x ≤ 2305843009213693952 := by
                    have h1 := upto_mono (fun x => x) cs (fun k _ => (HS.out k).1) 16 (Nat.le_refl _) (k + 1) (by omega)
                    rw [show upto (fun x => x) cs (k + 1) = upto (fun x => x) cs k + cs.getD k 0 from rfl, ht, hx] at h1
                    have h2 := HT.out
                    unfold sumC at h2
                    have h3 : ((j : Int) + 1) * 4294967296 ≤ 1000000000000 := by have := J200.out; omega
                    omega
                  have hb1 := hb.1
                  have hb2 := hb.2
                  have G := Aside0.mk (show got cs k = x by unfold got; rw [if_pos (by omega), Int.toNat_natCast]; exact hx)
                  have E := Aside0.mk (show upto (fun x => x) cs (k + 1) = t + x by rw [show upto (fun x => x) cs (k + 1) = upto (fun x => x) cs k + cs.getD k 0 from rfl, ht, hx])
                  clear hx ht hb
                  go_wp2_with (go_at_call 14; with_reducible refine (get_my w b cs hi 0 0 k _ HM.out x G.out).mono ?_; rintro e w1 ⟨rfl, rfl⟩)
                  go_roundw
                  case rel => exact ⟨k + 1, by omega, by go_num, by rw [E.out], HM.out, HA.out⟩
                  case measure => simp [intOf]; omega
                · have hge16 : 16 ≤ (k : Int) := by omega
                  have e16 : k = 16 := by omega
                  have ES := Aside0.mk (show upto (fun x => x) cs k = sumC cs by rw [e16]; rfl)
                  clear e16
                  rw [ES.out]
                  have S2 := Aside0.mk (fun (k : Nat) (_ : k < 16) => (HS.out k).1)
                  have T2 := Aside0.mk (show sumC cs ≤ 2305843009213693952 by have h2 := HT.out; have := J200.out; omega)
                  go_wp2_with (first
                    | (go_at_call 17; with_reducible refine (open_my w b cs hi 0 _ HM.out).mono ?_; rintro e w1 ⟨rfl, rfl⟩)
                    | (go_at_call 12; with_reducible refine (high_my w b cs hi 0 0 _ HM.out).mono ?_; rintro e w1 ⟨rfl, rfl⟩)
                    | (go_at_call 15; with_reducible refine (total_my w b cs hi 0 0 _ HM.out S2.out T2.out).mono ?_; rintro e w1 ⟨rfl, rfl⟩))
                  go_roundw
                  case rel => exact ⟨j + 1, cs, hi, 0, false, by omega, by go_num, rfl, rfl, rfl, HM.out, HA.out, fun h => (by first | rfl | cases h), by simpa using HS.out, by simpa using HT.out⟩
                  case measure => simp [intOf]; omega
          · by_cases k3 : how = 3
            · subst k3
              have HS := Aside0.mk (HS0.out.mono (m' := ((j : Int) + 1) * 4294967296) (by omega))
              have HT := Aside0.mk (show sumC cs ≤ ((j : Int) + 1) * 4294967296 by have := HT0.out; omega)
              clear HS0 HT0
              go_upto_region 30 with (go_at_call 16; with_reducible refine (close_my w b cs hi 0 n _ HM.out).mono ?_; rintro e w1 ⟨rfl, hm, hn⟩; have p2' := (World.cell?_of_block (w := W) (a := ⟨p, 2, none⟩) (hn.block p PL.out PN.out)).trans p2; have HM' := Aside0.mk hm; have HA' := Aside0.mk (HA.out.near hn HQ.out); clear hm hn HM HA; have HM := HM'; have HA := HA'; clear HM' HA')
              go_upto_region 31 with fail
              go_wp2_with (refine load_list rfl 42 _ rfl ⟨q, 0, none⟩ rfl (cs.map (Value.int .i64)) _ HA.out.list Try.underlying42 rfl (by rw [List.length_map, HA.out.len]; kernel_rfl) ?_)
              go_loopw [13, 104] (fun total ix wr => ∃ k : Nat, k ≤ 16 ∧ ix = .int .i64 k ∧ total = .int .i64 (upto (fun x => x) cs k) ∧ My w wr b cs hi 1 n ∧ Ar wr q cs) (fun _ ix _ => 16 - (intOf ix).toNat)
              case atStart => exact ⟨0, by omega, rfl, rfl, HM.out, HA.out⟩
              case round =>
                obtain ⟨k, hk, rfl, rfl, hM, hA⟩ := hrel
                clear HM HA
                have HM := Aside0.mk hM
                have HA := Aside0.mk hA
                clear hM hA
                by_cases hlt16 : k < 16
                · have hk2 : (k : Int) < 16 := by omega
                  have X := fun W => idx_arr cs k hlt16 HA.out.len W
                  obtain ⟨x, hx⟩ : ∃ x, cs.getD k 0 = x := ⟨_, rfl⟩
                  rw [hx] at X
                  obtain ⟨t, ht⟩ : ∃ t, upto (fun x => x) cs k = t := ⟨_, rfl⟩
                  rw [ht]
                  have hb : 0 ≤ t + x ∧ t + x ≤ 2305843009213693952 := by
                    have h1 := upto_mono (fun x => x) cs (fun k _ => (HS.out k).1) 16 (Nat.le_refl _) (k + 1) (by omega)
                    rw [show upto (fun x => x) cs (k + 1) = upto (fun x => x) cs k + cs.getD k 0 from rfl, ht, hx] at h1
                    have h2 := HT.out
                    unfold sumC at h2
                    have h3 : ((j : Int) + 1) * 4294967296 ≤ 1000000000000 := by have := J200.out; omega
                    omega
                  have hb1 := hb.1
                  have hb2 := hb.2
                  have G := Aside0.mk (show got cs k = x by unfold got; rw [if_pos (by omega), Int.toNat_natCast]; exact hx)
                  have E := Aside0.mk (show upto (fun x => x) cs (k + 1) = t + x by rw [show upto (fun x => x) cs (k + 1) = upto (fun x => x) cs k + cs.getD k 0 from rfl, ht, hx])
                  clear hx ht hb
                  go_wp2_with (go_at_call 14; with_reducible refine (get_my w b cs hi 1 n k _ HM.out x G.out).mono ?_; rintro e w1 ⟨rfl, rfl⟩)
                  go_roundw
                  case rel => exact ⟨k + 1, by omega, by go_num, by rw [E.out], HM.out, HA.out⟩
                  case measure => simp [intOf]; omega
                · have hge16 : 16 ≤ (k : Int) := by omega
                  have e16 : k = 16 := by omega
                  have ES := Aside0.mk (show upto (fun x => x) cs k = sumC cs by rw [e16]; rfl)
                  clear e16
                  rw [ES.out]
                  have S2 := Aside0.mk (fun (k : Nat) (_ : k < 16) => (HS.out k).1)
                  have T2 := Aside0.mk (show sumC cs ≤ 2305843009213693952 by have h2 := HT.out; have := J200.out; omega)
                  go_wp2_with (first
                    | (go_at_call 17; with_reducible refine (shut_my w b cs hi n _ HM.out).mono ?_; rintro e w1 ⟨rfl, rfl⟩)
                    | (go_at_call 12; with_reducible refine (high_my w b cs hi 1 n _ HM.out).mono ?_; rintro e w1 ⟨rfl, rfl⟩)
                    | (go_at_call 15; with_reducible refine (total_my w b cs hi 1 n _ HM.out S2.out T2.out).mono ?_; rintro e w1 ⟨rfl, rfl⟩))
                  go_roundw
                  case rel => exact ⟨j + 1, cs, hi, n, true, by omega, by go_num, rfl, rfl, rfl, HM.out, HA.out, fun h => (by first | rfl | cases h), by simpa using HS.out, by simpa using HT.out⟩
                  case measure => simp [intOf]; omega
            · have b1 : (how == 1) = false := beq_eq_false_iff_ne.mpr k1
              have b2 : (how == 2) = false := beq_eq_false_iff_ne.mpr k2
              have b3 : (how == 3) = false := beq_eq_false_iff_ne.mpr k3
              clear k1 k2 k3
              have HS := Aside0.mk (HS0.out.mono (m' := ((j : Int) + 1) * 4294967296) (by omega))
              have HT := Aside0.mk (show sumC cs ≤ ((j : Int) + 1) * 4294967296 by have := HT0.out; omega)
              clear HS0 HT0
              go_upto_region 30 with fail
              go_upto_region 31 with fail
              go_wp2_with (refine load_list rfl 42 _ rfl ⟨q, 0, none⟩ rfl (cs.map (Value.int .i64)) _ HA.out.list Try.underlying42 rfl (by rw [List.length_map, HA.out.len]; kernel_rfl) ?_)
              go_loopw [13, 104] (fun total ix wr => ∃ k : Nat, k ≤ 16 ∧ ix = .int .i64 k ∧ total = .int .i64 (upto (fun x => x) cs k) ∧ My w wr b cs hi 0 0 ∧ Ar wr q cs) (fun _ ix _ => 16 - (intOf ix).toNat)
              case atStart => exact ⟨0, by omega, rfl, rfl, HM.out, HA.out⟩
              case round =>
                obtain ⟨k, hk, rfl, rfl, hM, hA⟩ := hrel
                clear HM HA
                have HM := Aside0.mk hM
                have HA := Aside0.mk hA
                clear hM hA
                by_cases hlt16 : k < 16
                · have hk2 : (k : Int) < 16 := by omega
                  have X := fun W => idx_arr cs k hlt16 HA.out.len W
                  obtain ⟨x, hx⟩ : ∃ x, cs.getD k 0 = x := ⟨_, rfl⟩
                  rw [hx] at X
                  obtain ⟨t, ht⟩ : ∃ t, upto (fun x => x) cs k = t := ⟨_, rfl⟩
                  rw [ht]
                  have hb : 0 ≤ t + x ∧ t + x ≤ 2305843009213693952 := by
                    have h1 := upto_mono (fun x => x) cs (fun k _ => (HS.out k).1) 16 (Nat.le_refl _) (k + 1) (by omega)
                    rw [show upto (fun x => x) cs (k + 1) = upto (fun x => x) cs k + cs.getD k 0 from rfl, ht, hx] at h1
                    have h2 := HT.out
                    unfold sumC at h2
                    have h3 : ((j : Int) + 1) * 4294967296 ≤ 1000000000000 := by have := J200.out; omega
                    omega
                  have hb1 := hb.1
                  have hb2 := hb.2
                  have G := Aside0.mk (show got cs k = x by unfold got; rw [if_pos (by omega), Int.toNat_natCast]; exact hx)
                  have E := Aside0.mk (show upto (fun x => x) cs (k + 1) = t + x by rw [show upto (fun x => x) cs (k + 1) = upto (fun x => x) cs k + cs.getD k 0 from rfl, ht, hx])
                  clear hx ht hb
                  go_wp2_with (go_at_call 14; with_reducible refine (get_my w b cs hi 0 0 k _ HM.out x G.out).mono ?_; rintro e w1 ⟨rfl, rfl⟩)
                  go_roundw
                  case rel => exact ⟨k + 1, by omega, by go_num, by rw [E.out], HM.out, HA.out⟩
                  case measure => simp [intOf]; omega
                · have hge16 : 16 ≤ (k : Int) := by omega
                  have e16 : k = 16 := by omega
                  have ES := Aside0.mk (show upto (fun x => x) cs k = sumC cs by rw [e16]; rfl)
                  clear e16
                  rw [ES.out]
                  have S2 := Aside0.mk (fun (k : Nat) (_ : k < 16) => (HS.out k).1)
                  have T2 := Aside0.mk (show sumC cs ≤ 2305843009213693952 by have h2 := HT.out; have := J200.out; omega)
                  go_wp2_with (first
                    | (go_at_call 17; with_reducible refine (open_my w b cs hi 0 _ HM.out).mono ?_; rintro e w1 ⟨rfl, rfl⟩)
                    | (go_at_call 12; with_reducible refine (high_my w b cs hi 0 0 _ HM.out).mono ?_; rintro e w1 ⟨rfl, rfl⟩)
                    | (go_at_call 15; with_reducible refine (total_my w b cs hi 0 0 _ HM.out S2.out T2.out).mono ?_; rintro e w1 ⟨rfl, rfl⟩))
                  go_roundw
                  case rel => exact ⟨j + 1, cs, hi, 0, false, by omega, by go_num, rfl, rfl, rfl, HM.out, HA.out, fun h => (by first | rfl | cases h), by simpa using HS.out, by simpa using HT.out⟩
                  case measure => simp [intOf]; omega
    · have hge : (len : Int) ≤ j := by omega
      by_cases hask : 0 ≤ ask ∧ ask < 16
      · obtain ⟨k1, k2⟩ := hask
        go_wp2
        go_ret
        exact ⟨rfl, HM.out.bel⟩
      · have G := Aside0.mk (show got cs ask = 0 by unfold got; rw [if_neg hask])
        have hask' : ask < 0 ∨ (0 ≤ ask ∧ 16 ≤ ask) := by omega
        rcases hask' with k1 | ⟨k1, k2⟩
        all_goals (go_wp2_with (go_at_call 14; with_reducible refine (get_my w b cs hi _ rs ask _ HM.out 0 G.out).mono ?_; rintro e w1 ⟨rfl, rfl⟩))
        all_goals (go_ret; exact ⟨rfl, HM.out.bel⟩)
theorem plays_calls (a : Option Addr) (cap : Nat) (l : List ActT) (len : Nat) (ask : Int) (w : World) (s : Acts w a len l) : Calls Try.prog 8 #[.slice a len cap, .int .i64 ask] w fun e w' => e = .returned (.bool true) ∧ Below w.heap.size w w' := by
  by_cases h200 : len ≤ 200
  · exact plays_in a cap l len ask w s h200
  · have hlen := s.2.1
    clear s
    go_enter Try.func8, Try.ntmps8
    go_wp2_with (go_at_call 9; with_reducible refine (anchor_c _).mono ?_; rintro e w1 ⟨rfl, hb⟩; have HB := Aside0.mk hb; clear hb)
    go_ret
    exact ⟨rfl, HB.out⟩
end Go.Proofs.Ytblibjnhldocaaa.HandM
