/- Whether bytes, or packets, are the same. -/
import Derived.Test.YtldiipomcenbkaaHandQ
import Derived.Test.YtldiipomcenbkaaQi
import Derived.Test.YtldiipomcenbkaaQg
import Derived.Lib.Strings
namespace Go.Proofs.Ytldiipomcenbkaa.Qw
open Go.RowKit Go.Proofs.YtldiipomcenbkaaW.PrintWords Go.Proofs.YtldiipomcenbkaaW.PrintLast Go.Proofs.YtldiipomcenbkaaW.PrintMore
open HandS (Bytes byte_at add_block)
set_option linter.unusedVariables false
set_option linter.unusedSimpArgs false
theorem C_of_bytes {w : World} {a : Option Addr} {len : Nat} {l : List Nat} (h : Bytes w a len l) : Kd.C (Kd.int .u8) w a len (iz l) := by
  refine Kd.C_of_reads (d := (0 : Int)) (h1 := fun _ => rfl) ⟨by rw [iz_length]; exact h.1, h.2.1, fun hp => ?_⟩
  obtain ⟨ad, h1, h2⟩ := h.2.2.2 hp
  refine ⟨ad, h1, fun i hi => ?_⟩
  rw [h2 i hi]
  unfold iz
  rw [List.getD_eq_getElem?_getD, List.getD_eq_getElem?_getD, List.getElem?_map]
  cases l[i]? <;> rfl
theorem str_inj {l k : List Nat} (hl : ∀ x ∈ l, x < 256) (hk : ∀ x ∈ k, x < 256) : ((strOfNums (iz l)).toList == (strOfNums (iz k)).toList) = true ↔ l = k := by
  have e : ∀ m : List Nat, (strOfNums (iz m)).toList = m.map fun n => UInt8.ofNat n := by
    intro m
    rw [Lib.toList_data, strOfNums_data]
    unfold iz
    rw [List.map_map]
    rfl
  rw [e, e, beq_iff_eq]
  constructor
  · intro h
    have h2 := congrArg (List.map UInt8.toNat) h
    rw [List.map_map, List.map_map] at h2
    have h3 : ∀ m : List Nat, (∀ x ∈ m, x < 256) → m.map (UInt8.toNat ∘ fun n => UInt8.ofNat n) = m := by
      intro m hm
      have : m.map (UInt8.toNat ∘ fun n => UInt8.ofNat n) = m.map id := List.map_congr_left (fun x hx => by
        show (UInt8.ofNat x).toNat = x
        rw [UInt8.toNat_ofNat']
        exact Nat.mod_eq_of_lt (hm x hx))
      rw [this, List.map_id]
    rw [h3 l hl, h3 k hk] at h2
    exact h2
  · rintro rfl
    rfl
theorem same_c (A B : Option Addr) (c d n m : Nat) (l k : List Nat) (w : World) (hl : Bytes w A n l) (hc : n ≤ c) (hk : Bytes w B m k) (hd : m ≤ d) (r : Bool) (hr : r = true ↔ l = k) :
    Calls Try.prog 16 #[.slice A n c, .slice B m d] w fun e w' => e = .returned (.bool r) ∧ Drawn0 w w' := by
  have h1 := C_of_bytes hl
  have h2 := C_of_bytes hk
  have e1 : n = (iz l).length := by rw [iz_length]; exact hl.1.symm
  have e2 : m = (iz k).length := by rw [iz_length]; exact hk.1.symm
  have hb : ((strOfNums (iz l)).toList == (strOfNums (iz k)).toList) = r := by
    have := str_inj hl.2.2.1 hk.2.2.1
    cases r with
    | true => exact this.mpr (hr.mp rfl)
    | false => exact Bool.eq_false_iff.mpr (fun h => by have := hr.mpr (this.mp h); cases this)
  rw [e1] at hc h1 ⊢
  rw [e2] at hd h2 ⊢
  exact grapevinelaw11_same.calls A c (iz l) B d (iz k) r w h1 hc h2 hd (by unfold grapevinelaw11_same.f; rw [hb])
theorem s48_ext {x y : S48} (h0 : x.f0 = y.f0) (h1 : x.f1 = y.f1) : x = y := by
  cases x; cases y
  simp only at h0 h1
  rw [h0, h1]
theorem same_l0 (b0 b1 b2 b3 b4 b5 b6 b7 b8 b9 : Int) (l m : List S48) (hl : l.length = m.length) (hmax : l.length ≤ 9223372036854775807) : ∀ d i, i + d = l.length → ∃ r, grapevinemade_SamePacket.l0 (d + 1) l l.length i b0 b1 b2 b3 b4 b5 b6 b7 b8 b9 m = some r ∧ (r = true ↔ l.drop i = m.drop i) := by
  intro d
  induction d with
  | zero =>
    intro i hi
    refine ⟨true, ?_, ?_⟩
    · rw [grapevinemade_SamePacket.l0.eq_2, if_neg (by omega)]
    · rw [List.drop_of_length_le (by omega), List.drop_of_length_le (by omega)]
      simp
  | succ d ih =>
    intro i hi
    obtain ⟨r, h1, h2⟩ := ih (i + 1) (by omega)
    have hw : wrap64 ((i : Int) + 1) = ((i + 1 : Nat) : Int) := by unfold wrap64; omega
    rw [grapevinemade_SamePacket.l0.eq_2, if_pos (by omega), if_pos (by omega), if_pos (by omega), if_pos (by omega), hw]
    rw [drop_at l i (by omega), drop_at m i (by omega)]
    obtain ⟨x, hx⟩ : ∃ x, rd_T48 l (i : Int) = x := ⟨_, rfl⟩
    obtain ⟨y, hy⟩ : ∃ y, rd_T48 m (i : Int) = y := ⟨_, rfl⟩
    rw [hx, hy]
    by_cases h0 : x.f0 = y.f0
    · by_cases h3 : x.f1 = y.f1
      · refine ⟨r, ?_, ?_⟩
        · rw [if_neg (by simp [h0, h3])]
          exact h1
        · rw [h2, s48_ext h0 h3]
          simp
      · refine ⟨false, ?_, ?_⟩
        · rw [if_pos (by simp [h3])]
        · constructor
          · intro h; cases h
          · intro h
            exact absurd (congrArg S48.f1 (List.cons.inj h).1) h3
    · refine ⟨false, ?_, ?_⟩
      · rw [if_pos (by simp [h0])]
      · constructor
        · intro h; cases h
        · intro h
          exact absurd (congrArg S48.f0 (List.cons.inj h).1) h0
/-- Two packets are one. -/
def PkEq (a0 a1 a2 a3 a4 a5 a6 a7 a8 a9 : Int) (l : List S48) (b0 b1 b2 b3 b4 b5 b6 b7 b8 b9 : Int) (m : List S48) : Prop := a0 = b0 ∧ a1 = b1 ∧ a2 = b2 ∧ a3 = b3 ∧ a4 = b4 ∧ a5 = b5 ∧ a6 = b6 ∧ a7 = b7 ∧ a8 = b8 ∧ a9 = b9 ∧ l = m
theorem same_f (a0 a1 a2 a3 a4 a5 a6 a7 a8 a9 : Int) (l : List S48) (b0 b1 b2 b3 b4 b5 b6 b7 b8 b9 : Int) (m : List S48) (hmax : l.length ≤ 9223372036854775807) : ∃ r, grapevinemade_SamePacket.f (l.length + 2) a0 a1 a2 a3 a4 a5 a6 a7 a8 a9 l b0 b1 b2 b3 b4 b5 b6 b7 b8 b9 m = some r ∧ (r = true ↔ PkEq a0 a1 a2 a3 a4 a5 a6 a7 a8 a9 l b0 b1 b2 b3 b4 b5 b6 b7 b8 b9 m) := by
  unfold PkEq
  unfold grapevinemade_SamePacket.f
  by_cases h0 : a0 = b0
  rotate_left
  · refine ⟨false, ?_, ⟨(fun h => by cases h), fun h => absurd h.1 h0⟩⟩
    rw [if_neg h0, grapevinemade_SamePacket.j0.eq_2, if_pos rfl]
  by_cases h1 : a1 = b1
  rotate_left
  · refine ⟨false, ?_, ⟨(fun h => by cases h), fun h => absurd h.2.1 h1⟩⟩
    rw [if_pos h0, if_neg h1, grapevinemade_SamePacket.j0.eq_2, if_pos rfl]
  by_cases h2 : a2 = b2
  rotate_left
  · refine ⟨false, ?_, ⟨(fun h => by cases h), fun h => absurd h.2.2.1 h2⟩⟩
    rw [if_pos h0, if_pos h1, if_neg h2, grapevinemade_SamePacket.j0.eq_2, if_pos rfl]
  by_cases h3 : a3 = b3
  rotate_left
  · refine ⟨false, ?_, ⟨(fun h => by cases h), fun h => absurd h.2.2.2.1 h3⟩⟩
    rw [if_pos h0, if_pos h1, if_pos h2, if_neg h3, grapevinemade_SamePacket.j0.eq_2, if_pos rfl]
  by_cases h4 : a4 = b4
  rotate_left
  · refine ⟨false, ?_, ⟨(fun h => by cases h), fun h => absurd h.2.2.2.2.1 h4⟩⟩
    rw [if_pos h0, if_pos h1, if_pos h2, if_pos h3, if_neg h4, grapevinemade_SamePacket.j0.eq_2, if_pos rfl]
  by_cases h5 : a5 = b5
  rotate_left
  · refine ⟨false, ?_, ⟨(fun h => by cases h), fun h => absurd h.2.2.2.2.2.1 h5⟩⟩
    rw [if_pos h0, if_pos h1, if_pos h2, if_pos h3, if_pos h4, if_neg h5, grapevinemade_SamePacket.j0.eq_2, if_pos rfl]
  by_cases h6 : a6 = b6
  rotate_left
  · refine ⟨false, ?_, ⟨(fun h => by cases h), fun h => absurd h.2.2.2.2.2.2.1 h6⟩⟩
    rw [if_pos h0, if_pos h1, if_pos h2, if_pos h3, if_pos h4, if_pos h5, if_neg h6, grapevinemade_SamePacket.j0.eq_2, if_pos rfl]
  by_cases h7 : a7 = b7
  rotate_left
  · refine ⟨false, ?_, ⟨(fun h => by cases h), fun h => absurd h.2.2.2.2.2.2.2.1 h7⟩⟩
    rw [if_pos h0, if_pos h1, if_pos h2, if_pos h3, if_pos h4, if_pos h5, if_pos h6, if_neg h7, grapevinemade_SamePacket.j0.eq_2, if_pos rfl]
  by_cases h8 : a8 = b8
  rotate_left
  · refine ⟨false, ?_, ⟨(fun h => by cases h), fun h => absurd h.2.2.2.2.2.2.2.2.1 h8⟩⟩
    rw [if_pos h0, if_pos h1, if_pos h2, if_pos h3, if_pos h4, if_pos h5, if_pos h6, if_pos h7, if_neg h8, grapevinemade_SamePacket.j0.eq_2, if_pos rfl]
  by_cases h9 : a9 = b9
  rotate_left
  · refine ⟨false, ?_, ⟨(fun h => by cases h), fun h => absurd h.2.2.2.2.2.2.2.2.2.1 h9⟩⟩
    rw [if_pos h0, if_pos h1, if_pos h2, if_pos h3, if_pos h4, if_pos h5, if_pos h6, if_pos h7, if_pos h8, if_neg h9, grapevinemade_SamePacket.j0.eq_2, if_pos rfl]
  rw [if_pos h0, if_pos h1, if_pos h2, if_pos h3, if_pos h4, if_pos h5, if_pos h6, if_pos h7, if_pos h8, if_pos h9, grapevinemade_SamePacket.j0.eq_2]
  by_cases hl : l.length = m.length
  · obtain ⟨r, q1, q2⟩ := same_l0 b0 b1 b2 b3 b4 b5 b6 b7 b8 b9 l m hl hmax l.length 0 (by omega)
    refine ⟨r, ?_, ?_⟩
    · rw [if_neg (by simp [hl])]
      exact q1
    · rw [q2, List.drop_zero, List.drop_zero]
      exact ⟨fun h => ⟨h0, h1, h2, h3, h4, h5, h6, h7, h8, h9, h⟩, fun h => h.2.2.2.2.2.2.2.2.2.2⟩
  · refine ⟨false, ?_, ⟨(fun h => by cases h), fun h => absurd (congrArg List.length h.2.2.2.2.2.2.2.2.2.2) hl⟩⟩
    rw [if_pos (by simp; omega)]
theorem samePk_c (a0 a1 a2 a3 a4 a5 a6 a7 a8 a9 : Int) (A : Option Addr) (c : Nat) (l : List S48) (b0 b1 b2 b3 b4 b5 b6 b7 b8 b9 : Int) (E : Option Addr) (d : Nat) (m : List S48) (n k : Nat) (hn : l.length = n) (hk : m.length = k) (w : World) (hl : Kd.C k48 w A n l) (hc : n ≤ c) (hm : Kd.C k48 w E k m) (hd : k ≤ d) (r : Bool) (hr : r = true ↔ PkEq a0 a1 a2 a3 a4 a5 a6 a7 a8 a9 l b0 b1 b2 b3 b4 b5 b6 b7 b8 b9 m) :
    Calls Try.prog 18 #[.agg #[.int .i64 a0, .int .i64 a1, .int .i64 a2, .int .i64 a3, .int .i64 a4, .int .u64 a5, .int .i64 a6, .int .i64 a7, .int .i64 a8, .int .u64 a9, .slice A n c], .agg #[.int .i64 b0, .int .i64 b1, .int .i64 b2, .int .i64 b3, .int .i64 b4, .int .u64 b5, .int .i64 b6, .int .i64 b7, .int .i64 b8, .int .u64 b9, .slice E k d]] w fun e w' => e = .returned (.bool r) ∧ Below w.heap.size w w' := by
  subst hn hk
  obtain ⟨q, h1, h2⟩ := same_f a0 a1 a2 a3 a4 a5 a6 a7 a8 a9 l b0 b1 b2 b3 b4 b5 b6 b7 b8 b9 m hl.2.1
  have : q = r := by
    rw [Bool.eq_iff_iff, h2, hr]
  rw [this] at h1
  exact grapevinemade_SamePacket.calls (l.length + 2) a0 a1 a2 a3 a4 a5 a6 a7 a8 a9 A c l b0 b1 b2 b3 b4 b5 b6 b7 b8 b9 E d m r w hl hc hm hd h1
theorem nat_inj {a b : Int} (ha : 0 ≤ a) (hb : 0 ≤ b) (h : a.toNat = b.toNat) : a = b := by omega
theorem nat_lt {a : Int} (h : a ≤ 281474976710656) : a.toNat < 18446744073709551616 := by omega
theorem nat_lt2 {a : Int} (h : 0 ≤ a ∧ a < 18446744073709551616) : a.toNat < 18446744073709551616 := by omega
theorem encI_inj {a0 a1 a2 a3 a4 a5 a6 a7 a8 a9 : Int} {l : List S48} {b0 b1 b2 b3 b4 b5 b6 b7 b8 b9 : Int} {m : List S48} (ha : rightB a0 a1 a2 a3 a4 a5 a6 a7 a8 a9 l = true) (hb : rightB b0 b1 b2 b3 b4 b5 b6 b7 b8 b9 m = true) (h5 : 0 ≤ a5 ∧ a5 < 18446744073709551616) (h9 : 0 ≤ a9 ∧ a9 < 18446744073709551616) (g5 : 0 ≤ b5 ∧ b5 < 18446744073709551616) (g9 : 0 ≤ b9 ∧ b9 < 18446744073709551616) : encI a0 a1 a2 a3 a4 a5 a6 a7 a8 a9 l = encI b0 b1 b2 b3 b4 b5 b6 b7 b8 b9 m ↔ PkEq a0 a1 a2 a3 a4 a5 a6 a7 a8 a9 l b0 b1 b2 b3 b4 b5 b6 b7 b8 b9 m := by
  constructor
  · intro h
    have R := right_of ha
    have S := right_of hb
    have e0 := (encI_3 R).symm.trans ((by rw [h] : ((encI a0 a1 a2 a3 a4 a5 a6 a7 a8 a9 l).getD 3 0 : Int) = ((encI b0 b1 b2 b3 b4 b5 b6 b7 b8 b9 m).getD 3 0 : Int)).trans (encI_3 S))
    have e1 : a1.toNat = b1.toNat := by rw [← fld_0 (a0 := a0) (a1 := a1) (a2 := a2) (a3 := a3) (a4 := a4) (a5 := a5) (a6 := a6) (a7 := a7) (a8 := a8) (a9 := a9) (l := l) (nat_lt (Int.le_trans R.f2 (by decide))), ← fld_0 (a0 := b0) (a1 := b1) (a2 := b2) (a3 := b3) (a4 := b4) (a5 := b5) (a6 := b6) (a7 := b7) (a8 := b8) (a9 := b9) (l := m) (nat_lt (Int.le_trans S.f2 (by decide))), h]
    have e2 : a2.toNat = b2.toNat := by rw [← fld_1 (a0 := a0) (a1 := a1) (a2 := a2) (a3 := a3) (a4 := a4) (a5 := a5) (a6 := a6) (a7 := a7) (a8 := a8) (a9 := a9) (l := l) (nat_lt R.e1), ← fld_1 (a0 := b0) (a1 := b1) (a2 := b2) (a3 := b3) (a4 := b4) (a5 := b5) (a6 := b6) (a7 := b7) (a8 := b8) (a9 := b9) (l := m) (nat_lt S.e1), h]
    have e3 : a3.toNat = b3.toNat := by rw [← fld_2 (a0 := a0) (a1 := a1) (a2 := a2) (a3 := a3) (a4 := a4) (a5 := a5) (a6 := a6) (a7 := a7) (a8 := a8) (a9 := a9) (l := l) (nat_lt (Int.le_trans R.c1 R.e1)), ← fld_2 (a0 := b0) (a1 := b1) (a2 := b2) (a3 := b3) (a4 := b4) (a5 := b5) (a6 := b6) (a7 := b7) (a8 := b8) (a9 := b9) (l := m) (nat_lt (Int.le_trans S.c1 S.e1)), h]
    have e4 : a4.toNat = b4.toNat := by rw [← fld_3 (a0 := a0) (a1 := a1) (a2 := a2) (a3 := a3) (a4 := a4) (a5 := a5) (a6 := a6) (a7 := a7) (a8 := a8) (a9 := a9) (l := l) (nat_lt (Int.le_trans R.m1 (by decide))), ← fld_3 (a0 := b0) (a1 := b1) (a2 := b2) (a3 := b3) (a4 := b4) (a5 := b5) (a6 := b6) (a7 := b7) (a8 := b8) (a9 := b9) (l := m) (nat_lt (Int.le_trans S.m1 (by decide))), h]
    have e5 : a5.toNat = b5.toNat := by rw [← fld_4 (a0 := a0) (a1 := a1) (a2 := a2) (a3 := a3) (a4 := a4) (a5 := a5) (a6 := a6) (a7 := a7) (a8 := a8) (a9 := a9) (l := l) (nat_lt2 h5), ← fld_4 (a0 := b0) (a1 := b1) (a2 := b2) (a3 := b3) (a4 := b4) (a5 := b5) (a6 := b6) (a7 := b7) (a8 := b8) (a9 := b9) (l := m) (nat_lt2 g5), h]
    have e6 : a6.toNat = b6.toNat := by rw [← fld_5 (a0 := a0) (a1 := a1) (a2 := a2) (a3 := a3) (a4 := a4) (a5 := a5) (a6 := a6) (a7 := a7) (a8 := a8) (a9 := a9) (l := l) (nat_lt R.o1), ← fld_5 (a0 := b0) (a1 := b1) (a2 := b2) (a3 := b3) (a4 := b4) (a5 := b5) (a6 := b6) (a7 := b7) (a8 := b8) (a9 := b9) (l := m) (nat_lt S.o1), h]
    have e7 : a7.toNat = b7.toNat := by rw [← fld_6 (a0 := a0) (a1 := a1) (a2 := a2) (a3 := a3) (a4 := a4) (a5 := a5) (a6 := a6) (a7 := a7) (a8 := a8) (a9 := a9) (l := l) (nat_lt (Int.le_trans R.b1 (by decide))), ← fld_6 (a0 := b0) (a1 := b1) (a2 := b2) (a3 := b3) (a4 := b4) (a5 := b5) (a6 := b6) (a7 := b7) (a8 := b8) (a9 := b9) (l := m) (nat_lt (Int.le_trans S.b1 (by decide))), h]
    have e8 : a8.toNat = b8.toNat := by rw [← fld_7 (a0 := a0) (a1 := a1) (a2 := a2) (a3 := a3) (a4 := a4) (a5 := a5) (a6 := a6) (a7 := a7) (a8 := a8) (a9 := a9) (l := l) (nat_lt R.g1), ← fld_7 (a0 := b0) (a1 := b1) (a2 := b2) (a3 := b3) (a4 := b4) (a5 := b5) (a6 := b6) (a7 := b7) (a8 := b8) (a9 := b9) (l := m) (nat_lt S.g1), h]
    have e9 : a9.toNat = b9.toNat := by rw [← fld_8 (a0 := a0) (a1 := a1) (a2 := a2) (a3 := a3) (a4 := a4) (a5 := a5) (a6 := a6) (a7 := a7) (a8 := a8) (a9 := a9) (l := l) (nat_lt2 h9), ← fld_8 (a0 := b0) (a1 := b1) (a2 := b2) (a3 := b3) (a4 := b4) (a5 := b5) (a6 := b6) (a7 := b7) (a8 := b8) (a9 := b9) (l := m) (nat_lt2 g9), h]
    have es : l = m := by rw [← encI_sec R, ← encI_sec S, h]
    exact ⟨e0, nat_inj (Int.le_trans (by decide) R.f1) (Int.le_trans (by decide) S.f1) e1, nat_inj R.e0 S.e0 e2, nat_inj R.c0 S.c0 e3, nat_inj R.m0 S.m0 e4, nat_inj h5.1 g5.1 e5, nat_inj R.o0 S.o0 e6, nat_inj R.b0 S.b0 e7, nat_inj R.g0 S.g0 e8, nat_inj h9.1 g9.1 e9, es⟩
  · rintro ⟨rfl, rfl, rfl, rfl, rfl, rfl, rfl, rfl, rfl, rfl, rfl⟩
    rfl
end Go.Proofs.Ytldiipomcenbkaa.Qw
