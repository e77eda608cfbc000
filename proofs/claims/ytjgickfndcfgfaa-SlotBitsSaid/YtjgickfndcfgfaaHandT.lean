/- strings.Cut by one byte, a key's tag and its slot, by hand. -/
import Derived.Test.YtjgickfndcfgfaaHandS
import Derived.Lib.Bytealg
import Derived.Lib.CutLaws
import Derived.Lib.IndexLaws
import Derived.Laws.Externs
import Derived.Lib.ConvBytes
import Derived.Laws.Strings3
namespace Go.Proofs.Ytjgickfndcfgfaa.HandS
open Go.RowKit Go.Proofs.Ytjgickfndcfgfaa.HandC
set_option linter.unusedVariables false
set_option linter.unusedSimpArgs false
/-- Nothing but draws. -/
structure Same (w w' : World) : Prop where
  os : w'.os = w.os
  tape : w'.tape = w.tape
  output : w'.output = w.output
  heap : w'.heap = w.heap
theorem Same.refl (w : World) : Same w w := ⟨rfl, rfl, rfl, rfl⟩
theorem Same.drew {w w' : World} (h : Same w w') : Same w w'.drew := ⟨h.os, h.tape, h.output, h.heap⟩
theorem Same.near {w w' : World} (h : Same w w') (b : Nat) : Near b w w' := ⟨h.os, h.tape, h.output, by rw [h.heap]; exact Nat.le_refl _, fun k _ _ => by rw [h.heap]⟩
theorem Same.below {w w' : World} (h : Same w w') (B : Nat) : Below B w w' := ⟨h.os, h.tape, h.output, by rw [h.heap]; exact Nat.le_refl _, fun k _ => by rw [h.heap]⟩
theorem indexByte_c (s : ByteArray) (c : Int) (w : World) :
    Calls Try.prog 36 #[.string s, .int .u8 c] w fun e w' => e = .returned (.int .i64 (Lib.indexByte s.data.toList c.toNat.toUInt8)) ∧ w' = w := by
  go_enter Try.func36, Try.ntmps36
  go_wp2
  rw [run_callFunc_extern Try.func48 (by kernel_rfl) (by kernel_rfl) (by kernel_rfl) (e := Extern.BytealgIndexByte.indexByte) (by kernel_rfl), Lib.run_indexByteString]
  simp only [Result.andThen]
  rw [Oper.upon_value]
  go_wp2
  go_ret
  exact ⟨rfl, rfl⟩
theorem index_c (s : ByteArray) (c : UInt8) (w : World) :
    Calls Try.prog 31 #[.string s, .string ⟨#[c]⟩] w fun e w' => e = .returned (.int .i64 (Lib.indexByte s.data.toList c)) ∧ w' = w := by
  go_enter Try.func31, Try.ntmps31
  go_wp2_with (go_at_call 36; refine (indexByte_c _ _ _).mono ?_; rintro e w' ⟨rfl, rfl⟩)
  · have h : ([c] == s.toList) = true := by assumption
    go_ret
    refine ⟨?_, rfl⟩
    have e : s.data.toList = [c] := by rw [← Lib.toList_data]; exact (beq_iff_eq.1 h).symm
    rw [e]
    simp [Lib.indexByte]
  · go_ret
    exact ⟨rfl, rfl⟩
/-- Where a byte is met first. -/
def hit (s : ByteArray) (c : UInt8) : Int := Lib.indexByte s.data.toList c
theorem hit_cases (s : ByteArray) (c : UInt8) : hit s c = -1 ∨ ∃ i : Nat, hit s c = i ∧ i + 1 ≤ s.size := by
  have hge := Lib.indexByte_ge s.data.toList c
  by_cases h : hit s c = -1
  · exact .inl h
  · right
    have h' : Lib.indexByte s.data.toList c ≠ -1 := h
    refine ⟨(hit s c).toNat, by show Lib.indexByte _ _ = ((Lib.indexByte _ _).toNat : Int); omega, ?_⟩
    have h2 := (Lib.indexByte_some (l := s.data.toList) (c := c) (o := (hit s c).toNat) (by show Lib.indexByte _ _ = ((Lib.indexByte _ _).toNat : Int); omega)).1
    have h3 := (List.getElem?_eq_some_iff.1 h2).1
    rw [Lib.size_eq]
    omega
theorem lcut_miss (s : ByteArray) (c : UInt8) (w : World) (h : hit s c = -1) :
    Calls Try.prog 26 #[.string s, .string ⟨#[c]⟩] w fun e w' => e = .returned (.tuple #[.string s, .string ByteArray.empty, .bool false]) ∧ w' = w := by
  have h' : Lib.indexByte s.data.toList c = -1 := h
  go_enter Try.func26, Try.ntmps26
  go_wp2_with (go_at_call 31; refine (index_c _ _ _).mono ?_; rintro e w' ⟨rfl, rfl⟩; rw [h'])
  go_ret3
  exact ⟨rfl, rfl⟩
theorem lcut_hit (s : ByteArray) (c : UInt8) (w : World) (i : Nat) (h : hit s c = i) (hi : i + 1 ≤ s.size) (hs : s.size < 4294967296) :
    Calls Try.prog 26 #[.string s, .string ⟨#[c]⟩] w fun e w' => e = .returned (.tuple #[.string (s.extract 0 i), .string (s.extract (i + 1) s.size), .bool true]) ∧ w' = w.drew := by
  have h' : Lib.indexByte s.data.toList c = i := h
  have c1 : (0 : Int) ≤ (i : Int) := by omega
  have c2 : (i : Int) ≤ (s.size : Int) := by omega
  have c3 : (0 : Int) ≤ (i : Int) + 1 := by omega
  have c4 : (i : Int) + 1 ≤ (s.size : Int) := by omega
  go_enter Try.func26, Try.ntmps26
  go_wp2_with (go_at_call 31; refine (index_c _ _ _).mono ?_; rintro e w' ⟨rfl, rfl⟩; rw [h'])
  go_region
  go_wp2
  go_ret3
  exact ⟨rfl, rfl⟩
theorem cut_miss (s : ByteArray) (c : UInt8) (w : World) (h : hit s c = -1) :
    Calls Try.prog 22 #[.string s, .string ⟨#[c]⟩] w fun e w' => e = .returned (.tuple #[.string s, .string ByteArray.empty, .bool false]) ∧ w' = w := by
  go_enter Try.func22, Try.ntmps22
  go_wp2_with (go_at_call 26; refine (lcut_miss _ _ _ h).mono ?_; rintro e w' ⟨rfl, rfl⟩)
  go_ret3
  exact ⟨rfl, rfl⟩
theorem cut_hit (s : ByteArray) (c : UInt8) (w : World) (i : Nat) (h : hit s c = i) (hi : i + 1 ≤ s.size) (hs : s.size < 4294967296) :
    Calls Try.prog 22 #[.string s, .string ⟨#[c]⟩] w fun e w' => e = .returned (.tuple #[.string (s.extract 0 i), .string (s.extract (i + 1) s.size), .bool true]) ∧ w' = w.drew := by
  go_enter Try.func22, Try.ntmps22
  go_wp2_with (go_at_call 26; refine (lcut_hit _ _ _ i h hi hs).mono ?_; rintro e w' ⟨rfl, rfl⟩)
  go_ret3
  exact ⟨rfl, rfl⟩
/-- What counts of a key. -/
def tagOf (s : ByteArray) : ByteArray :=
  if hit s 123 = -1 then s
  else if hit (s.extract ((hit s 123).toNat + 1) s.size) 125 ≤ 0 then s
  else (s.extract ((hit s 123).toNat + 1) s.size).extract 0 (hit (s.extract ((hit s 123).toNat + 1) s.size) 125).toNat
theorem hit_empty (c : UInt8) : hit ByteArray.empty c = -1 := rfl
theorem tag_c (s : ByteArray) (w : World) (hs : s.size < 4294967296) :
    Calls Try.prog 16 #[.string s] w fun e w' => e = .returned (.string (tagOf s)) ∧ Same w w' := by
  rcases hit_cases s 123 with h | ⟨i, h, hi⟩
  · have ht : tagOf s = s := by unfold tagOf; rw [if_pos h]
    rw [ht]
    have HH := Aside0.mk h
    clear h ht
    go_enter Try.func16, Try.ntmps16
    go_wp2_with (first
      | (go_at_call 22; with_reducible refine (cut_miss s 123 _ HH.out).mono ?_; rintro e w' ⟨rfl, rfl⟩)
      | (go_at_call 22; with_reducible refine (cut_miss ByteArray.empty 125 _ (hit_empty _)).mono ?_; rintro e w' ⟨rfl, rfl⟩))
    go_ret
    exact ⟨rfl, Same.refl _⟩
  · obtain ⟨r, hr⟩ : ∃ r, s.extract (i + 1) s.size = r := ⟨_, rfl⟩
    have hrs : r.size < 4294967296 := by rw [← hr, ByteArray.size_extract]; omega
    have hne : ¬ hit s 123 = -1 := by omega
    have hin : (hit s 123).toNat = i := by omega
    rcases hit_cases r 125 with h2 | ⟨j, h2, hj⟩
    · have ht : tagOf s = s := by unfold tagOf; rw [if_neg hne, hin, hr, if_pos (by omega)]
      rw [ht]
      have HH := Aside0.mk h
      have HH2 := Aside0.mk h2
      have HR := Aside0.mk hr
      clear h ht h2 hr hne hin
      go_enter Try.func16, Try.ntmps16
      go_wp2_with (first
        | (go_at_call 22; with_reducible refine (cut_hit s 123 _ i HH.out hi hs).mono ?_; rintro e w' ⟨rfl, rfl⟩; rw [HR.out])
        | (go_at_call 22; with_reducible refine (cut_miss r 125 _ HH2.out).mono ?_; rintro e w' ⟨rfl, rfl⟩))
      go_ret
      exact ⟨rfl, (Same.refl _).drew⟩
    · by_cases h0 : j = 0
      · have ht : tagOf s = s := by unfold tagOf; rw [if_neg hne, hin, hr, if_pos (by omega)]
        rw [ht]
        subst h0
        have he : r.extract 0 0 = ByteArray.empty := ByteArray.ext (by simp)
        have HH := Aside0.mk h
        have HH2 := Aside0.mk h2
        have HR := Aside0.mk hr
        have HE := Aside0.mk he
        clear h ht h2 hr hne hin he
        go_enter Try.func16, Try.ntmps16
        go_wp2_with (first
          | (go_at_call 22; with_reducible refine (cut_hit s 123 _ i HH.out hi hs).mono ?_; rintro e w' ⟨rfl, rfl⟩; rw [HR.out])
          | (go_at_call 22; with_reducible refine (cut_hit r 125 _ 0 HH2.out hj hrs).mono ?_; rintro e w' ⟨rfl, rfl⟩; rw [HE.out]))
        go_ret
        exact ⟨rfl, (Same.refl _).drew.drew⟩
      · have ht : tagOf s = r.extract 0 j := by unfold tagOf; rw [if_neg hne, hin, hr, if_neg (by omega), h2, Int.toNat_natCast]
        rw [ht]
        obtain ⟨t, het⟩ : ∃ t, r.extract 0 j = t := ⟨_, rfl⟩
        have hne2 : (!t.toList.isEmpty) = true := by
          have hsz : t.size = j := by rw [← het, ByteArray.size_extract]; omega
          rw [Lib.toList_data, Bool.not_eq_true', List.isEmpty_eq_false_iff]
          intro e
          rw [Lib.size_eq, e] at hsz
          exact h0 hsz.symm
        rw [het]
        have HH := Aside0.mk h
        have HH2 := Aside0.mk h2
        have HR := Aside0.mk hr
        have HE := Aside0.mk het
        clear h ht h2 hr hne hin het
        go_enter Try.func16, Try.ntmps16
        go_wp2_with (first
          | (go_at_call 22; with_reducible refine (cut_hit s 123 _ i HH.out hi hs).mono ?_; rintro e w' ⟨rfl, rfl⟩; rw [HR.out])
          | (go_at_call 22; with_reducible refine (cut_hit r 125 _ j HH2.out hj hrs).mono ?_; rintro e w' ⟨rfl, rfl⟩; rw [HE.out]))
        go_ret
        exact ⟨rfl, (Same.refl _).drew.drew⟩
/-- A text's bytes. -/
def nats (s : ByteArray) : List Nat := s.data.toList.map UInt8.toNat
theorem nats_lt (s : ByteArray) : ∀ x ∈ nats s, x < 256 := by
  intro x hx
  obtain ⟨y, _, rfl⟩ := List.mem_map.1 hx
  exact y.toNat_lt
theorem nats_length (s : ByteArray) : (nats s).length = s.size := by rw [nats, List.length_map, Lib.size_eq]
theorem tagOf_size (s : ByteArray) : (tagOf s).size ≤ s.size := by
  unfold tagOf
  split
  · exact Nat.le_refl _
  · split
    · exact Nat.le_refl _
    · rw [ByteArray.size_extract, ByteArray.size_extract]
      omega
theorem Hh.same {w w' : World} {b : Nat} (h : Hh w b) (s : Same w w') : Hh w' b := h.below (s.below (b + 1)) (Nat.lt_succ_self b)
theorem bw_below (w : World) (e : Nat) (s : ByteArray) : Below w.heap.size w (Lib.bytesWorld w e s) :=
  ⟨rfl, rfl, rfl, by rw [Lib.bytesWorld_size]; omega, fun k hk => Lib.bytesWorld_at_old w e s k hk⟩
theorem bw_near (w : World) (e : Nat) (s : ByteArray) (b : Nat) : Near b w (Lib.bytesWorld w e s) :=
  ⟨rfl, rfl, rfl, by rw [Lib.bytesWorld_size]; omega, fun k hk _ => Lib.bytesWorld_at_old w e s k hk⟩
theorem bw_bytes (w : World) (e : Nat) (s : ByteArray) (hs : s.size < 4294967296) : Bytes (Lib.bytesWorld w e s) (some ⟨w.heap.size, 0, none⟩) s.size (nats s) := by
  refine ⟨nats_length s, by omega, nats_lt s, fun _ => ⟨_, rfl, fun i hi => ?_⟩⟩
  have hadd : (⟨w.heap.size, 0, none⟩ : Addr).add i = ⟨w.heap.size, i, none⟩ := by unfold Addr.add; split <;> simp_all
  rw [hadd, Lib.bytesWorld_cell w e s i hi]
  have : i < s.data.toList.length := by rw [← Lib.size_eq]; exact hi
  rw [nats, List.getD_eq_getElem?_getD, List.getD_eq_getElem?_getD, List.getElem?_map, List.getElem?_eq_getElem this]
  rfl
theorem conv_bytes (w : World) (s : ByteArray) : (convert 9 22 (.string s)).run Try.prog w = .ok (.slice (some ⟨w.heap.size, 0, none⟩) s.size (grownCap w s.size 0 5)) (Lib.bytesWorld w 5 s) :=
  Lib.run_convert_string_bytes w 9 22 5 s Try.underlying9 Try.underlying22 Try.underlying5
set_option maxRecDepth 100000 in
theorem slot_c (w : World) (b : Nat) (h : Hh w b) (s : ByteArray) (hs : s.size < 4294967296) :
    Calls Try.prog 18 #[.pointer (some ⟨b, 0, none⟩), .string s] w fun e w' => e = .returned (.int .i64 (crc 0 (nats (tagOf s)) % 64 : Nat)) ∧ Hh w' b ∧ Near b w w' := by
  have H := Aside0.mk h
  have hts := tagOf_size s
  obtain ⟨t, ht⟩ : ∃ t, tagOf s = t := ⟨_, rfl⟩
  rw [ht] at hts ⊢
  have HT := Aside0.mk ht
  have hcr := crc_lt (nats t) 0 (by decide) (nats_lt t)
  have hcv := conv_bytes
  clear h ht
  obtain ⟨c, hc⟩ : ∃ c, crc 0 (nats t) = c := ⟨_, rfl⟩
  rw [hc] at hcr ⊢
  have HC := Aside0.mk hc
  clear hc
  go_enter Try.func18, Try.ntmps18
  go_wp2_with (first
    | (go_at_call 16; with_reducible refine (tag_c s _ hs).mono ?_; rintro e w1 ⟨rfl, hw⟩; rw [HT.out]; have HW := Aside0.mk hw; clear hw)
    | (go_at_call 14; with_reducible refine (sum_c _ b ((H.out.same HW.out).below (bw_below _ 5 t) (H.out.same HW.out).lt) _ _ _ _ (bw_bytes _ 5 t (by omega)) (fun ad e _ => by cases e; exact Nat.ne_of_gt (H.out.same HW.out).lt)).mono ?_; rintro e w2 ⟨rfl, h2, n2⟩; rw [HC.out]; have H2 := Aside0.mk h2; have N2 := Aside0.mk (((HW.out.near b).trans (bw_near _ 5 t b)).trans n2); clear h2 n2))
  go_ret
  exact ⟨rfl, H2.out, N2.out⟩
end Go.Proofs.Ytjgickfndcfgfaa.HandS
