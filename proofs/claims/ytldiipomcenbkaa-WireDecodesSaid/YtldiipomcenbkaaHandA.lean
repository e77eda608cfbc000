/- The plain law: what was read is written. -/
import Derived.Test.YtldiipomcenbkaaHandP
namespace Go.Proofs.Ytldiipomcenbkaa.Qw
open Go.RowKit Go.Proofs.YtldiipomcenbkaaW.PrintWords Go.Proofs.YtldiipomcenbkaaW.PrintLast Go.Proofs.YtldiipomcenbkaaW.PrintMore
open HandS (Bytes byte_at add_block)
set_option linter.unusedVariables false
set_option linter.unusedSimpArgs false
theorem e8_num8 (b0 b1 b2 b3 b4 b5 b6 b7 : Nat) (t : List Nat) (h0 : b0 < 256) (h1 : b1 < 256) (h2 : b2 < 256) (h3 : b3 < 256) (h4 : b4 < 256) (h5 : b5 < 256) (h6 : b6 < 256) (h7 : b7 < 256) :
    e8 (num8 (b0 :: b1 :: b2 :: b3 :: b4 :: b5 :: b6 :: b7 :: t)) = [b0, b1, b2, b3, b4, b5, b6, b7] := by
  have hn : num8 (b0 :: b1 :: b2 :: b3 :: b4 :: b5 :: b6 :: b7 :: t) = (((((((b0 * 256 + b1) * 256 + b2) * 256 + b3) * 256 + b4) * 256 + b5) * 256 + b6) * 256 + b7) := by
    unfold num8
    rw [show (b0 :: b1 :: b2 :: b3 :: b4 :: b5 :: b6 :: b7 :: t).take 8 = [b0, b1, b2, b3, b4, b5, b6, b7] from rfl]
    unfold fold8
    simp only [List.foldl_cons, List.foldl_nil]
    omega
  rw [hn]
  unfold e8
  simp only [List.cons.injEq, and_true]
  refine ⟨?_, ?_, ?_, ?_, ?_, ?_, ?_, ?_⟩ <;> omega
theorem drop_one (l : List Nat) (t : Nat) (h : t < l.length) : l.drop t = l.getD t 0 :: l.drop (t + 1) := by
  rw [List.drop_eq_getElem_cons h, List.getD_eq_getElem?_getD, List.getElem?_eq_getElem h]
  rfl
theorem drop_eight (l : List Nat) (h : ∀ x ∈ l, x < 256) (t : Nat) (ht : t + 8 ≤ l.length) : l.drop t = e8 (num8 (l.drop t)) ++ l.drop (t + 8) := by
  have hb := byte_at h
  have hd : l.drop t = l.getD t 0 :: l.getD (t + 1) 0 :: l.getD (t + 2) 0 :: l.getD (t + 3) 0 :: l.getD (t + 4) 0 :: l.getD (t + 5) 0 :: l.getD (t + 6) 0 :: l.getD (t + 7) 0 :: l.drop (t + 8) := by
    rw [drop_one l t (by omega), drop_one l (t + 1) (by omega), drop_one l (t + 2) (by omega), drop_one l (t + 3) (by omega), drop_one l (t + 4) (by omega), drop_one l (t + 5) (by omega), drop_one l (t + 6) (by omega), drop_one l (t + 7) (by omega)]
  rw [show num8 (l.drop t) = num8 (l.getD t 0 :: l.getD (t + 1) 0 :: l.getD (t + 2) 0 :: l.getD (t + 3) 0 :: l.getD (t + 4) 0 :: l.getD (t + 5) 0 :: l.getD (t + 6) 0 :: l.getD (t + 7) 0 :: l.drop (t + 8)) from congrArg num8 hd]
  rw [e8_num8 _ _ _ _ _ _ _ _ _ (hb _) (hb _) (hb _) (hb _) (hb _) (hb _) (hb _) (hb _)]
  exact hd
theorem i64_back {n : Nat} (h : 0 ≤ i64 n) (h2 : n < 18446744073709551616) : (i64 n).toNat = n := by
  revert h
  unfold i64
  rw [HandC.wrap_i64]
  omega
theorem num8_lt {l : List Nat} (h : ∀ x ∈ l, x < 256) (t : Nat) : num8 (l.drop t) < 18446744073709551616 := by
  unfold num8
  have h1 := fold8_lt ((l.drop t).take 8) (fun x hx => h x (List.mem_of_mem_drop (List.mem_of_mem_take hx)))
  have h2 : 256 ^ ((l.drop t).take 8).length ≤ 256 ^ 8 := Nat.pow_le_pow_right (by decide) (by rw [List.length_take]; omega)
  exact Nat.lt_of_lt_of_le h1 h2
theorem ents_drop (l : List Nat) (h : ∀ x ∈ l, x < 256) (m : Nat) (hl : l.length = 79 + 9 * m) (hp : ∀ i, i < m → 0 ≤ i64 (num8 (l.drop (77 + 9 * i)))) : ∀ k, k ≤ m → l.drop 77 = ((List.range k).map (entAt l)).flatMap ent ++ l.drop (77 + 9 * k) := by
  intro k
  induction k with
  | zero => intro _; rfl
  | succ k ih =>
    intro hk
    have h1 := ih (by omega)
    have h2 := drop_eight l h (77 + 9 * k) (by omega)
    have h3 := drop_one l (77 + 9 * k + 8) (by omega)
    have he : ent (entAt l k) = e8 (num8 (l.drop (77 + 9 * k))) ++ [l.getD (77 + 9 * k + 8) 0] := by
      unfold ent entAt
      rw [i64_back (hp k (by omega)) (num8_lt h _), show 85 + 9 * k = 77 + 9 * k + 8 by omega]
      rfl
    rw [List.range_succ, List.map_append, List.flatMap_append, List.map_singleton, List.flatMap_singleton, he, List.append_assoc, List.append_assoc, List.singleton_append, show 77 + 9 * (k + 1) = 77 + 9 * k + 8 + 1 by omega, ← h3, ← h2]
    exact h1
theorem body_of (l : List Nat) (h : ∀ x ∈ l, x < 256) (hF : frameN l = 0) (hp : ∀ i, i < l.getD 76 0 → 0 ≤ i64 (num8 (l.drop (77 + 9 * i)))) :
    l = body (l.getD 3 0) (fld l 0) (fld l 1) (fld l 2) (fld l 3) (fld l 4) (fld l 5) (fld l 6) (fld l 7) (fld l 8) (secOf l) ++ l.drop (77 + 9 * l.getD 76 0) := by
  obtain ⟨h1, h2, h3, h4, h5, h6, h7, h8⟩ := frame_ok hF
  have d0 := drop_one l 0 (by omega)
  have d1 := drop_one l 1 (by omega)
  have d2 := drop_one l 2 (by omega)
  have d3 := drop_one l 3 (by omega)
  have e0 := drop_eight l h 4 (by omega)
  have e1 := drop_eight l h 12 (by omega)
  have e2 := drop_eight l h 20 (by omega)
  have e3 := drop_eight l h 28 (by omega)
  have e4 := drop_eight l h 36 (by omega)
  have e5 := drop_eight l h 44 (by omega)
  have e6 := drop_eight l h 52 (by omega)
  have e7 := drop_eight l h 60 (by omega)
  have e8' := drop_eight l h 68 (by omega)
  have d76 := drop_one l 76 (by omega)
  have es := ents_drop l h (l.getD 76 0) h1 hp _ (Nat.le_refl _)
  have hs : (secOf l).length = l.getD 76 0 := by unfold secOf; rw [List.length_map, List.length_range]
  rw [h5] at d0
  rw [h6] at d1
  rw [h7] at d2
  have hE : l = 71 :: 86 :: 1 :: l.getD 3 0 :: (e8 (fld l 0) ++ (e8 (fld l 1) ++ (e8 (fld l 2) ++ (e8 (fld l 3) ++ (e8 (fld l 4) ++ (e8 (fld l 5) ++ (e8 (fld l 6) ++ (e8 (fld l 7) ++ (e8 (fld l 8) ++ (l.getD 76 0 :: ((secOf l).flatMap ent ++ l.drop (77 + 9 * l.getD 76 0)))))))))))) :=
    d0.trans (congrArg (71 :: ·) (d1.trans (congrArg (86 :: ·) (d2.trans (congrArg (1 :: ·) (d3.trans (congrArg (l.getD 3 0 :: ·) (e0.trans (congrArg (e8 (fld l 0) ++ ·) (e1.trans (congrArg (e8 (fld l 1) ++ ·) (e2.trans (congrArg (e8 (fld l 2) ++ ·) (e3.trans (congrArg (e8 (fld l 3) ++ ·) (e4.trans (congrArg (e8 (fld l 4) ++ ·) (e5.trans (congrArg (e8 (fld l 5) ++ ·) (e6.trans (congrArg (e8 (fld l 6) ++ ·) (e7.trans (congrArg (e8 (fld l 7) ++ ·) (e8'.trans (congrArg (e8 (fld l 8) ++ ·) (d76.trans (congrArg (l.getD 76 0 :: ·) es)))))))))))))))))))))))))))
  refine hE.trans ?_
  unfold body nums
  rw [hs]
  simp only [List.append_assoc, List.cons_append, List.nil_append]
theorem enc_dec (l : List Nat) (h : ∀ x ∈ l, x < 256) (hF : frameN l = 0) (hr : rightD l = true) :
    encI (l.getD 3 0 : Nat) (i64 (fld l 0)) (i64 (fld l 1)) (i64 (fld l 2)) (i64 (fld l 3)) (fld l 4 : Nat) (i64 (fld l 5)) (i64 (fld l 6)) (i64 (fld l 7)) (fld l 8 : Nat) (secOf l) = l := by
  obtain ⟨h1, h2, h3, h4, h5, h6, h7, h8⟩ := frame_ok hF
  unfold rightD at hr
  have R := right_of hr
  have f1 := R.f1; have e0 := R.e0; have c0 := R.c0; have m0 := R.m0; have o0 := R.o0; have b0 := R.b0; have g0 := R.g0
  have hs : (secOf l).length = l.getD 76 0 := by unfold secOf; rw [List.length_map, List.length_range]
  have hb := body_of l h hF (fun i hi => by
    have := R.sec (entAt l i) (List.mem_map.2 ⟨i, List.mem_range.2 hi, rfl⟩)
    have h0 : (entAt l i).f0 = i64 (num8 (l.drop (77 + 9 * i))) := rfl
    omega)
  have q : ∀ i, fld l i < 18446744073709551616 := fun i => num8_lt h _
  unfold encI
  rw [i64_back (by omega) (q 0), i64_back (by omega) (q 1), i64_back (by omega) (q 2), i64_back (by omega) (q 3), i64_back (by omega) (q 5), i64_back (by omega) (q 6), i64_back (by omega) (q 7), Int.toNat_natCast, Int.toNat_natCast, Int.toNat_natCast]
  have hlen := body_length (l.getD 3 0) (fld l 0) (fld l 1) (fld l 2) (fld l 3) (fld l 4) (fld l 5) (fld l 6) (fld l 7) (fld l 8) (secOf l)
  unfold enc
  obtain ⟨B, hB⟩ : ∃ B, body (l.getD 3 0) (fld l 0) (fld l 1) (fld l 2) (fld l 3) (fld l 4) (fld l 5) (fld l 6) (fld l 7) (fld l 8) (secOf l) = B := ⟨_, rfl⟩
  rw [hB] at hb hlen ⊢
  have ht : l.take (l.length - 2) = B := by
    have hk : l.length - 2 = B.length := by omega
    rw [hk]
    exact (congrArg (fun z => List.take B.length z) hb).trans (List.take_left' rfl)
  rw [ht] at h8
  have hy := byte_at h (l.length - 2)
  have hz := byte_at h (l.length - 1)
  have hd : l.drop (77 + 9 * l.getD 76 0) = sum16 B := by
    have hk : 77 + 9 * l.getD 76 0 = l.length - 2 := by omega
    rw [hk, drop_one l _ (by omega), drop_one l _ (by omega), List.drop_eq_nil_of_le (by omega), show l.length - 2 + 1 = l.length - 1 by omega]
    unfold sum16
    rw [h8, show (l.getD (l.length - 2) 0 * 256 + l.getD (l.length - 1) 0) / 256 = l.getD (l.length - 2) 0 by omega, show (l.getD (l.length - 2) 0 * 256 + l.getD (l.length - 1) 0) % 256 = l.getD (l.length - 1) 0 by omega]
  rw [← hd]
  exact hb.symm
end Go.Proofs.Ytldiipomcenbkaa.Qw
