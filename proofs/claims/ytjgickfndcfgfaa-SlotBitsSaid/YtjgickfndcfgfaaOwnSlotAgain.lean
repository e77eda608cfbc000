/- SlotAgain by hand: a hasher that was used answers as a new one. -/
import Derived.Test.YtjgickfndcfgfaaHandR
import Derived.Laws.IdiomStrings
import Derived.Laws.BytesArg
namespace Go.Proofs.Ytjgickfndcfgfaa.HandS
open Go.RowKit Go.Proofs.Ytjgickfndcfgfaa.HandC
set_option linter.unusedVariables false
set_option linter.unusedSimpArgs false
theorem Mh.beside {w0 w w' : World} {b c : Nat} (h : Mh w0 w b) (n : Near c w w') (hne : b ≠ c) (hc : w0.heap.size ≤ c) : Mh w0 w' b := ⟨h.hh.near n hne, h.new, n.to0 h.bel hc⟩
theorem conv_string {w : World} {a : Option Addr} {len cap : Nat} {l : List Nat} (h : Bytes w a len l) : ∃ s : ByteArray, s.size = len ∧ ∀ w', Below w.heap.size w w' → (convert 22 9 (.slice a len cap)).run Try.prog w' = .ok (.string s) w' := by
  cases a with
  | none =>
    have h0 : len = 0 := by
      rcases Nat.eq_zero_or_pos len with h0 | h0
      · exact h0
      · obtain ⟨ad, h1, _⟩ := h.2.2.2 h0
        cases h1
    subst h0
    refine ⟨ByteArray.empty, rfl, fun w' _ => ?_⟩
    exact run_convert_bytes_nil w' 22 5 Try.underlying22 Try.underlying5 0 cap 9 Try.underlying9
  | some ad =>
    refine ⟨⟨(l.map UInt8.ofNat).toArray⟩, by rw [← h.1]; simp [ByteArray.size], fun w' hb => ?_⟩
    have hb' := h.below hb
    have h1 := run_convert_bytes_back (P := Try.prog) w' 22 9 5 ad cap (l.map UInt8.ofNat) Try.underlying22 Try.underlying5 Try.underlying9 (fun j hj => by
      rw [List.length_map] at hj
      obtain ⟨ad', e, hc⟩ := hb'.at (i := j) (by rw [← hb'.1]; exact hj)
      obtain rfl : ad = ad' := Option.some.inj e
      rw [hc, List.getElem_map]
      have hx := byte_at hb'.2.2.1 j
      rw [List.getD_eq_getElem?_getD, List.getElem?_eq_getElem hj] at hx ⊢
      have hx' : l[j] < 256 := hx
      show some (Value.int .u8 ((l[j] : Nat) : Int)) = some (Value.int .u8 (((UInt8.ofNat l[j]).toNat : Nat) : Int))
      rw [UInt8.toNat_ofNat', Nat.mod_eq_of_lt hx'])
    rw [List.length_map, h.1] at h1
    exact h1
set_option maxRecDepth 100000 in
set_option maxHeartbeats 8000000 in
theorem again_in (a : Option Addr) (cap len : Nat) (ls : List (List Nat)) (w : World) (s : Rows2 w a len ls) (h30 : len ≤ 30) : Calls Try.prog 9 #[.slice a len cap] w fun e w' => e = .returned (.bool true) ∧ Below w.heap.size w w' := by
  have HL := Aside0.mk s
  clear s
  go_enter Try.func9, Try.ntmps9
  go_wp2_with (first
    | (go_at_call 11; with_reducible refine (anchor_c _).mono ?_; rintro e w1 ⟨rfl, hb⟩; have HB := Aside0.mk hb; clear hb)
    | (go_at_call 12; with_reducible refine (new_h w _ HB.out).mono ?_; rintro e w2 ⟨b, rfl, hm, -, -⟩; have HM := Aside0.mk hm; clear hm))
  go_loopw [15] (fun i wr => ∃ j : Nat, j ≤ len ∧ i = .int .i64 j ∧ Mh w wr b) (fun i _ => len - (intOf i).toNat)
  case atStart => exact ⟨0, by omega, rfl, HM.out⟩
  case round =>
    clear HM
    obtain ⟨j, hj, rfl, hm⟩ := hrel
    have HM := Aside0.mk hm
    clear hm
    by_cases hlt : j < len
    · have hlt2 : (j : Int) < len := by omega
      obtain ⟨ad, rfl, ai, ci, hcell, hci, hb⟩ := HL.out.at hlt
      obtain ⟨l, hl⟩ : ∃ l, ls.getD j [] = l := ⟨_, rfl⟩
      rw [hl] at hcell hci hb
      clear hl
      obtain ⟨n, hn⟩ : ∃ n, l.length = n := ⟨_, rfl⟩
      rw [hn] at hcell hci hb
      have hmax := hb.2.1
      have HBY := Aside0.mk hb
      replace hcell := (HM.out.bel.cell (World.block_lt_of_cell? w _ hcell)).trans hcell
      clear hb hn
      by_cases h300 : n ≤ 300
      · obtain ⟨s, hsz, hcv0⟩ := conv_string (cap := ci) HBY.out
        obtain ⟨r, hr⟩ : ∃ r, crc 0 l = r := ⟨_, rfl⟩
        obtain ⟨q, hq⟩ : ∃ q, crc 0 (nats (tagOf s)) % 64 = q := ⟨_, rfl⟩
        have R := Aside0.mk hr
        have Q := Aside0.mk hq
        have hss : s.size < 4294967296 := by omega
        have hcv := fun w' (h : Mh w w' b) => hcv0 w' h.bel
        clear hr hq hcv0 hsz
        go_upto_region 12 with (go_at_call 14; with_reducible refine (sum_h w _ b HM.out _ _ _ l (HBY.out.now HM.out) (HBY.out.far HM.out) r R.out).mono ?_; rintro e w3 ⟨rfl, hm, -⟩; have HM2 := Aside0.mk hm; clear hm)
        go_region_held3 (fun w' => Mh w w' b) (first | exact HM2.out.same (Same.refl _).drew | assumption)
          (first
            | (go_at_call 14; with_reducible refine (sum_h w _ b (by assumption) _ _ _ l (HBY.out.now (show Mh w _ b by assumption)) (HBY.out.far (show Mh w _ b by assumption)) r R.out).mono ?_; rintro e w3 ⟨rfl, hm, -⟩)
            | (go_at_call 12; with_reducible refine (new_h w _ (show Mh w _ b by assumption).bel).mono ?_; rintro e w3 ⟨c, rfl, hm, hbel, hc⟩; have HC := Aside0.mk hm; have hbc := Aside0.mk (show b ≠ c from Nat.ne_of_lt (hc ▸ (show Mh w _ b by assumption).hh.lt)); have hmb := (show Mh w _ b by assumption).go hbel; clear hm hbel hc)
            | (go_at_call 14; with_reducible refine (sum_h w _ c HC.out _ _ _ l (HBY.out.now HC.out) (HBY.out.far HC.out) r R.out).mono ?_; rintro e w3 ⟨rfl, hm, hn⟩; have hmb := (show Mh w _ b by assumption).beside hn hbc.out HC.out.new; clear hm hn)
            | (go_at_call 18; with_reducible refine (slot_h w _ b (by assumption) s hss q Q.out).mono ?_; rintro e w3 ⟨rfl, hm, -⟩)
            | (go_at_call 18; with_reducible refine (slot_h w _ c HC.out s hss q Q.out).mono ?_; rintro e w3 ⟨rfl, hm, hn⟩; have hmb := (show Mh w _ b by assumption).beside hn hbc.out HC.out.new; clear hm hn))
        all_goals go_wp2
        all_goals exact ⟨⟨j + 1, by omega, by go_num, by assumption⟩, by simp [intOf]; omega⟩
      · go_wp2
        go_ret
        exact ⟨rfl, HM.out.bel⟩
    · have hge : (len : Int) ≤ j := by omega
      go_wp2
      go_ret
      exact ⟨rfl, HM.out.bel⟩
theorem again_calls (a : Option Addr) (cap len : Nat) (ls : List (List Nat)) (w : World) (s : Rows2 w a len ls) (hc : len ≤ cap) : Calls Try.prog 9 #[.slice a len cap] w fun e w' => e = .returned (.bool true) ∧ Below w.heap.size w w' := by
  by_cases h : len ≤ 30
  · exact again_in a cap len ls w s h
  · have hm := s.2.1
    clear s
    go_enter Try.func9, Try.ntmps9
    go_wp2_with (go_at_call 11; with_reducible refine (anchor_c _).mono ?_; rintro e w1 ⟨rfl, hb⟩; have HB := Aside0.mk hb; clear hb)
    go_ret
    exact ⟨rfl, HB.out⟩
end Go.Proofs.Ytjgickfndcfgfaa.HandS
