/- The document's bytes, plain. -/
import Derived.Test.YtldiipomcenbkaaHandV
import Derived.Test.YtldiipomcenbkaaHandZ
namespace Go.Proofs.Ytldiipomcenbkaa.Qw
open Go.RowKit Go.Proofs.YtldiipomcenbkaaW.PrintWords Go.Proofs.YtldiipomcenbkaaW.PrintLast Go.Proofs.YtldiipomcenbkaaW.PrintMore
set_option linter.unusedVariables false
set_option linter.unusedSimpArgs false
theorem eight_step (k n j : Nat) (xs : List Int) (hj : j < xs.length) (hn : n < 18446744073709551616) (hx : xs.length ≤ 100) : grapevineref11_eight.l0 (k + 1) n xs (j : Int) = grapevineref11_eight.l0 k ((n / 256 : Nat) : Int) (xs.set j ((n % 256 : Nat) : Int)) ((j : Int) - 1) := by
  have hw : wrap64 ((j : Int) - 1) = (j : Int) - 1 := by unfold wrap64; omega
  have h1 : IntKind.u64.wrap (Int.tdiv (n : Int) 256) = ((n / 256 : Nat) : Int) := by
    rw [Int.tdiv_eq_ediv_of_nonneg (by omega), wrap_u64]
    omega
  have h2 : (Int.tmod (n : Int) 256) % 256 = ((n % 256 : Nat) : Int) := by
    rw [Int.tmod_eq_emod_of_nonneg (by omega)]
    omega
  rw [grapevineref11_eight.l0.eq_2, if_pos (show (j : Int) ≥ 0 by omega), if_pos (show 0 ≤ (j : Int) by omega), if_pos (by omega), hw, h1, h2, Int.toNat_natCast]
theorem eight_f (k n : Nat) (hk : 9 ≤ k) (hn : n < 18446744073709551616) : grapevineref11_eight.f k n = some (iz (e8 n)) := by
  obtain ⟨k, rfl⟩ : ∃ q, k = q + 9 := ⟨k - 9, by omega⟩
  unfold grapevineref11_eight.f
  rw [if_pos (by decide), show (7 : Int) = ((7 : Nat) : Int) from rfl, eight_step _ n 7 _ (by simp) hn (by simp)]
  rw [show ((7 : Nat) : Int) - 1 = ((6 : Nat) : Int) from rfl, eight_step _ _ 6 _ (by simp) (by omega) (by simp)]
  rw [show ((6 : Nat) : Int) - 1 = ((5 : Nat) : Int) from rfl, eight_step _ _ 5 _ (by simp) (by omega) (by simp)]
  rw [show ((5 : Nat) : Int) - 1 = ((4 : Nat) : Int) from rfl, eight_step _ _ 4 _ (by simp) (by omega) (by simp)]
  rw [show ((4 : Nat) : Int) - 1 = ((3 : Nat) : Int) from rfl, eight_step _ _ 3 _ (by simp) (by omega) (by simp)]
  rw [show ((3 : Nat) : Int) - 1 = ((2 : Nat) : Int) from rfl, eight_step _ _ 2 _ (by simp) (by omega) (by simp)]
  rw [show ((2 : Nat) : Int) - 1 = ((1 : Nat) : Int) from rfl, eight_step _ _ 1 _ (by simp) (by omega) (by simp)]
  rw [show ((1 : Nat) : Int) - 1 = ((0 : Nat) : Int) from rfl, eight_step _ _ 0 _ (by simp) (by omega) (by simp)]
  rw [grapevineref11_eight.l0.eq_2, if_neg (by decide)]
  congr 1
  simp only [Nat.div_div_eq_div_mul]
  rfl
theorem wrap_id (x : Int) (h0 : 0 ≤ x) (h1 : x < 9223372036854775808) : wrap64 x = x := by unfold wrap64; omega
theorem rsum_l1 (l : List Int) (i : Nat) (hi : i < 9223372036854775807) : ∀ d k q : Nat, d ≤ 8 → q < 65536 → grapevineref01_Sum.l1 (k + d + 1) l q i (8 - d : Nat) = grapevineref01_Sum.l0 k l (HandC.bsn d q : Nat) ((i + 1 : Nat) : Int) := by
  intro d
  induction d with
  | zero =>
    intro k q _ _
    have hw : wrap64 ((i : Int) + 1) = ((i + 1 : Nat) : Int) := by unfold wrap64; omega
    rw [grapevineref01_Sum.l1.eq_2, if_neg (by decide), hw]
    rfl
  | succ d ih =>
    intro k q hd hq
    have hw : wrap64 (((8 - (d + 1) : Nat) : Int) + 1) = ((8 - d : Nat) : Int) := by unfold wrap64; omega
    rw [show k + (d + 1) + 1 = (k + d + 1) + 1 by omega, grapevineref01_Sum.l1.eq_2, if_pos (by omega), hw]
    have hb := HandC.bs_lt q
    by_cases h : 32768 ≤ q
    · have h64 : wrap64 ((wrap64 ((q : Int) - 32768)) * 2) = ((q : Int) - 32768) * 2 := by unfold wrap64; omega
      rw [if_pos (by omega), h64, HandC.bs_high64 q h hq]
      exact ih k (HandC.bs q) (by omega) hb
    · have hbl := HandC.bs_low q h
      rw [if_neg (by omega), wrap_id ((q : Int) * 2) (by omega) (by omega), show (q : Int) * 2 = ((HandC.bs q : Nat) : Int) by omega]
      exact ih k (HandC.bs q) (by omega) hb
theorem wrap_byte (x : Nat) (hx : x < 256) : wrap64 ((wrap64 (x : Int)) * 256) = ((x * 256 : Nat) : Int) := by
  rw [wrap_id (x : Int) (by omega) (by omega), wrap_id _ (by omega) (by omega)]
  omega
theorem rsum_l0 (l : List Nat) (hl : ∀ x ∈ l, x < 256) (hmax : l.length ≤ 1000000) : ∀ d i k : Nat, i + d = l.length → grapevineref01_Sum.l0 (k + 10 * d + 1) (iz l) (HandC.crc 0 (l.take i) : Nat) i = some ((HandC.crc 0 l : Nat) : Int) := by
  intro d
  induction d with
  | zero =>
    intro i k hi
    rw [show k + 10 * 0 + 1 = k + 1 by omega, grapevineref01_Sum.l0.eq_2, if_neg (by rw [iz_length]; omega), List.take_of_length_le (by omega)]
  | succ d ih =>
    intro i k hi
    have hc := HandC.crc_lt (l.take i) 0 (by decide) (fun x hx => hl x (List.mem_of_mem_take hx))
    have hs := HandS.crc_take 0 l i (by omega)
    have hx : l.getD i 0 < 256 := HandS.byte_at hl i
    have hrd : rd (iz l) (i : Int) = ((l.getD i 0 : Nat) : Int) := by
      unfold rd iz
      rw [Int.toNat_natCast, List.getD_eq_getElem?_getD, List.getD_eq_getElem?_getD, List.getElem?_map]
      cases l[i]? <;> rfl
    obtain ⟨c, hce⟩ : ∃ c, HandC.crc 0 (l.take i) = c := ⟨_, rfl⟩
    obtain ⟨x, hxe⟩ : ∃ x, l.getD i 0 = x := ⟨_, rfl⟩
    rw [hce] at hc hs ⊢
    rw [hxe] at hx hs hrd
    rw [← HandC.by_bits c x hc hx] at hs
    have hx2 : x * 256 < 65536 := by omega
    have h1 := rsum_l1 (iz l) i (by omega) 8 (k + 10 * d + 1) (c ^^^ (x * 256)) (by decide) (HandC.xor_lt 16 hc hx2)
    rw [show k + 10 * d + 1 + 8 + 1 = (k + 10 * d + 9) + 1 by omega] at h1
    have h2 := ih (i + 1) k (by omega)
    rw [hs] at h2
    have hlt : (i : Int) < ((iz l).length : Int) := by rw [iz_length]; omega
    have hi0 : (0 : Int) ≤ (i : Int) := by omega
    have hk : k + 10 * (d + 1) + 1 = (k + 10 * d + 9) + 1 + 1 := by omega
    rw [hk, grapevineref01_Sum.l0.eq_2, if_pos hlt, if_pos hi0, hrd, wrap_byte x hx, HandC.xor64 c (x * 256) hc hx2]
    rw [show (0 : Int) = ((8 - 8 : Nat) : Int) from rfl, h1]
    exact h2
theorem rsum_f (k : Nat) (l : List Nat) (hl : ∀ x ∈ l, x < 256) (hmax : l.length ≤ 1000000) (hk : 10 * l.length + 1 ≤ k) : grapevineref01_Sum.f k (iz l) = some ((HandC.crc 0 l : Nat) : Int) := by
  unfold grapevineref01_Sum.f
  have := rsum_l0 l hl hmax l.length 0 (k - (10 * l.length + 1)) (by omega)
  rw [show k - (10 * l.length + 1) + 10 * l.length + 1 = k by omega] at this
  exact this
theorem renc_l0 (n0 n1 n2 n3 n4 n5 n6 n7 n8 n9 : Nat) (l : List S48) (he : ∀ x ∈ l, 0 ≤ x.f0 ∧ x.f0 ≤ 4294967296 ∧ 0 ≤ x.f1 ∧ x.f1 ≤ 2) (hl20 : l.length ≤ 20) : ∀ d i k : Nat, ∀ ys : List Nat, i + d = l.length → ys.length ≤ 100 + 9 * i → (∀ x ∈ ys, x < 256) → 4000 ≤ k →
    grapevineref11_Encode.l0 (k + d + 1) (iz ys) i n0 n1 n2 n3 n4 n5 n6 n7 n8 n9 (l.map to49) = some (iz ((ys ++ (l.drop i).flatMap ent) ++ sum16 (ys ++ (l.drop i).flatMap ent))) := by
  intro d
  induction d with
  | zero =>
    intro i k ys hi hy hlt hk
    have hcl := HandC.crc_lt ys 0 (by decide) hlt
    rw [grapevineref11_Encode.l0.eq_2, if_neg (by rw [List.length_map]; omega), rsum_f _ ys hlt (by omega) (by omega), List.drop_of_length_le (by omega), List.flatMap_nil, List.append_nil]
    obtain ⟨s, hs⟩ : ∃ s, HandC.crc 0 ys = s := ⟨_, rfl⟩
    unfold sum16
    rw [hs] at hcl ⊢
    have e1 : wrap64 (Int.tdiv (s : Int) 256) % 256 = ((s / 256 : Nat) : Int) := by
      rw [Int.tdiv_eq_ediv_of_nonneg (by omega)]
      unfold wrap64
      omega
    have e2 : Int.tmod (s : Int) 256 % 256 = ((s % 256 : Nat) : Int) := by
      rw [Int.tmod_eq_emod_of_nonneg (by omega)]
      omega
    simp only [Option.bind_some]
    rw [e1, e2, if_pos (by rw [iz_length]; simp; omega), iz_append]
    rfl
  | succ d ih =>
    intro i k ys hi hy hlt hk
    have hw : wrap64 ((i : Int) + 1) = ((i + 1 : Nat) : Int) := by unfold wrap64; omega
    have hmem : rd_T48 l (i : Int) ∈ l := by
      unfold rd_T48
      rw [List.getD_eq_getElem?_getD, Int.toNat_natCast, List.getElem?_eq_getElem (by omega : i < l.length)]
      exact List.getElem_mem _
    rw [show k + (d + 1) + 1 = (k + d + 1) + 1 by omega, grapevineref11_Encode.l0.eq_2, if_pos (by rw [List.length_map]; omega), if_pos (by omega), rd49, drop_at l i (by omega), List.flatMap_cons, hw]
    obtain ⟨e, hee⟩ : ∃ e, rd_T48 l (i : Int) = e := ⟨_, rfl⟩
    rw [hee] at hmem ⊢
    obtain ⟨e1, e2, e3, e4⟩ := he e hmem
    have hx : IntKind.u64.wrap (to49 e).f0 = ((e.f0.toNat : Nat) : Int) := by rw [wrap_u64]; show e.f0 % _ = _; omega
    have hy2 : (to49 e).f1 % 256 = ((e.f1.toNat : Nat) : Int) := by show e.f1 % 256 = _; omega
    rw [hx, eight_f _ _ (by omega) (by omega), hy2]
    simp only [Option.bind_some]
    have hel : (iz (e8 e.f0.toNat)).length = 8 := rfl
    rw [if_pos (by rw [iz_length, hel]; omega), if_pos (by rw [List.length_append, iz_length, hel]; omega)]
    have := ih (i + 1) k (ys ++ ent e) (by omega) (by rw [List.length_append, ent_length]; omega) (fun x hx => (List.mem_append.1 hx).elim (hlt x) (fun h => by
      unfold ent at h
      simp only [List.mem_append, List.mem_cons, List.not_mem_nil, or_false] at h
      rcases h with h | rfl
      · exact e8_lt _ x h
      · omega)) hk
    have hz : iz ys ++ iz (e8 e.f0.toNat) ++ [((e.f1.toNat : Nat) : Int)] = iz (ys ++ ent e) := by
      unfold ent
      rw [iz_append, iz_append, List.append_assoc]
      rfl
    rw [hz, this, List.append_assoc ys]
theorem renc_f (n0 n1 n2 n3 n4 n5 n6 n7 n8 n9 : Nat) (l : List S48) (he : ∀ x ∈ l, 0 ≤ x.f0 ∧ x.f0 ≤ 4294967296 ∧ 0 ≤ x.f1 ∧ x.f1 ≤ 2) (hl20 : l.length ≤ 20) (h0 : n0 < 256) (h1 : n1 < 18446744073709551616) (h2 : n2 < 18446744073709551616) (h3 : n3 < 18446744073709551616) (h4 : n4 < 18446744073709551616) (h5 : n5 < 18446744073709551616) (h6 : n6 < 18446744073709551616) (h7 : n7 < 18446744073709551616) (h8 : n8 < 18446744073709551616) (h9 : n9 < 18446744073709551616) :
    grapevineref11_Encode.f 5000 n0 n1 n2 n3 n4 n5 n6 n7 n8 n9 (l.map to49) = some (iz (enc n0 n1 n2 n3 n4 n5 n6 n7 n8 n9 l)) := by
  have w0 : (n0 : Int) % 256 = (n0 : Int) := by omega
  have w1 : IntKind.u64.wrap (n1 : Int) = (n1 : Int) := by rw [wrap_u64]; omega
  have g1 := eight_f 5000 n1 (by decide) h1
  have w2 : IntKind.u64.wrap (n2 : Int) = (n2 : Int) := by rw [wrap_u64]; omega
  have g2 := eight_f 5000 n2 (by decide) h2
  have w3 : IntKind.u64.wrap (n3 : Int) = (n3 : Int) := by rw [wrap_u64]; omega
  have g3 := eight_f 5000 n3 (by decide) h3
  have w4 : IntKind.u64.wrap (n4 : Int) = (n4 : Int) := by rw [wrap_u64]; omega
  have g4 := eight_f 5000 n4 (by decide) h4
  have w5 : IntKind.u64.wrap (n5 : Int) = (n5 : Int) := by rw [wrap_u64]; omega
  have g5 := eight_f 5000 n5 (by decide) h5
  have w6 : IntKind.u64.wrap (n6 : Int) = (n6 : Int) := by rw [wrap_u64]; omega
  have g6 := eight_f 5000 n6 (by decide) h6
  have w7 : IntKind.u64.wrap (n7 : Int) = (n7 : Int) := by rw [wrap_u64]; omega
  have g7 := eight_f 5000 n7 (by decide) h7
  have w8 : IntKind.u64.wrap (n8 : Int) = (n8 : Int) := by rw [wrap_u64]; omega
  have g8 := eight_f 5000 n8 (by decide) h8
  have w9 : IntKind.u64.wrap (n9 : Int) = (n9 : Int) := by rw [wrap_u64]; omega
  have g9 := eight_f 5000 n9 (by decide) h9
  have hl : ∀ n, (iz (e8 n)).length = 8 := fun _ => rfl
  unfold grapevineref11_Encode.f
  rw [w0, w1, w2, w3, w4, w6, w7, w8]
  simp only [g1, g2, g3, g4, g5, g6, g7, g8, g9, Option.bind_some, List.length_append, List.length_cons, List.length_nil, hl, List.length_map]
  repeat rw [if_pos (by decide)]
  have hlm : ((l.length : Nat) : Int) % 256 = ((l.length : Nat) : Int) := by omega
  have hz : [71, 86, 1, (n0 : Int)] ++ iz (e8 n1) ++ iz (e8 n2) ++ iz (e8 n3) ++ iz (e8 n4) ++ iz (e8 n5) ++ iz (e8 n6) ++ iz (e8 n7) ++ iz (e8 n8) ++ iz (e8 n9) ++ [((l.length : Nat) : Int)] = iz ([71, 86, 1, n0] ++ nums n1 n2 n3 n4 n5 n6 n7 n8 n9 ++ [l.length]) := by
    unfold nums
    simp only [iz_append, List.append_assoc]
    rfl
  have hlt : ∀ x ∈ [71, 86, 1, n0] ++ nums n1 n2 n3 n4 n5 n6 n7 n8 n9 ++ [l.length], x < 256 := by
    intro x hx
    simp only [List.mem_append, List.mem_cons, List.not_mem_nil, or_false] at hx
    rcases hx with ((rfl | rfl | rfl | rfl) | h) | rfl
    · decide
    · decide
    · decide
    · exact h0
    · exact nums_lt _ _ _ _ _ _ _ _ _ x h
    · omega
  have hfin := renc_l0 n0 n1 n2 n3 n4 n5 n6 n7 n8 n9 l he hl20 l.length 0 (5000 - (l.length + 1)) ([71, 86, 1, n0] ++ nums n1 n2 n3 n4 n5 n6 n7 n8 n9 ++ [l.length]) (by omega) (by rw [List.length_append, List.length_append, nums_length]; simp) hlt (by omega)
  rw [show 5000 - (l.length + 1) + l.length + 1 = 5000 by omega] at hfin
  rw [hlm, hz]
  exact hfin
end Go.Proofs.Ytldiipomcenbkaa.Qw
