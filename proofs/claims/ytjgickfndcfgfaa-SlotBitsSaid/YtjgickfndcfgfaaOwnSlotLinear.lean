/- SlotLinear by hand: what two texts are xored together has the sum that theirs are xored together. -/
import Derived.Test.YtjgickfndcfgfaaHandA
import Derived.Laws.MakeOwn
namespace Go.Proofs.Ytjgickfndcfgfaa.HandS
open Go.RowKit Go.Proofs.Ytjgickfndcfgfaa.HandC
set_option linter.unusedVariables false
set_option linter.unusedSimpArgs false
def xors (l m : List Nat) : List Nat := List.zipWith (· ^^^ ·) l m
theorem xor_four (c d p q : Nat) : c ^^^ d ^^^ (p ^^^ q) = (c ^^^ p) ^^^ (d ^^^ q) := by
  rw [Nat.xor_assoc, Nat.xor_assoc, ← Nat.xor_assoc d, Nat.xor_comm d p, Nat.xor_assoc p]
theorem stp_xor (c d x y : Nat) (hc : c < 65536) (hd : d < 65536) (hx : x < 256) (hy : y < 256) : stp (c ^^^ d) (x ^^^ y) = stp c x ^^^ stp d y := by
  have hx2 : x * 256 < 65536 := Nat.mul_lt_mul_of_pos_right hx (by decide)
  have hy2 : y * 256 < 65536 := Nat.mul_lt_mul_of_pos_right hy (by decide)
  have hcd : c ^^^ d < 65536 := xor_lt 16 hc hd
  have hxy : x ^^^ y < 256 := xor_lt 8 hx hy
  have e1 := by_bits (c ^^^ d) (x ^^^ y) hcd hxy
  have e2 := by_bits c x hc hx
  have e3 := by_bits d y hd hy
  rw [← xor_mul] at e1
  obtain ⟨p, hp⟩ : ∃ p, x * 256 = p := ⟨_, rfl⟩
  obtain ⟨q, hq⟩ : ∃ q, y * 256 = q := ⟨_, rfl⟩
  rw [hp, hq] at e1
  rw [hp] at e2 hx2
  rw [hq] at e3 hy2
  rw [xor_four] at e1
  have h1 : c ^^^ p < 65536 := xor_lt 16 hc hx2
  have h2 : d ^^^ q < 65536 := xor_lt 16 hd hy2
  have e4 := bsn_xor 8 _ _ h1 h2
  exact e1.symm.trans (e4.trans (by rw [e2, e3]))
theorem crc_xor : ∀ (l m : List Nat) (c d : Nat), c < 65536 → d < 65536 → (∀ x ∈ l, x < 256) → (∀ x ∈ m, x < 256) → l.length = m.length → crc (c ^^^ d) (xors l m) = crc c l ^^^ crc d m := by
  intro l
  induction l with
  | nil =>
    intro m c d _ _ _ _ hl
    obtain rfl : m = [] := List.eq_nil_of_length_eq_zero hl.symm
    rfl
  | cons x l ih =>
    intro m c d hc hd h1 h2 hl
    cases m with
    | nil => cases hl
    | cons y m =>
      have hx := h1 x List.mem_cons_self
      have hy := h2 y List.mem_cons_self
      show crc (stp (c ^^^ d) (x ^^^ y)) (xors l m) = crc (stp c x) l ^^^ crc (stp d y) m
      rw [stp_xor c d x y hc hd hx hy]
      exact ih m _ _ (stp_lt c x hc hx) (stp_lt d y hd hy) (fun z hz => h1 z (List.mem_cons_of_mem _ hz)) (fun z hz => h2 z (List.mem_cons_of_mem _ hz)) (by simpa using hl)
theorem stp_zero : stp 0 0 = 0 := by decide +kernel
theorem crc_zeros : ∀ n, crc 0 (List.replicate n 0) = 0 := by
  intro n
  induction n with
  | zero => rfl
  | succ n ih =>
    rw [List.replicate_succ]
    show crc (stp 0 0) (List.replicate n 0) = 0
    rw [stp_zero]
    exact ih
theorem info5 : (Try.prog.info? 5).map (fun i => (i.zero, i.size, i.bytes)) = some (some (.int .u8 0), 1, 1) := by kernel_rfl
def mz (len : Nat) : Array Value := madeCells (Value.int .u8 0).cells len
theorem mz_at (len j : Nat) (h : j < len) : (mz len)[j]? = some (.int .u8 0) := by
  have h1 : (Value.int .u8 0).cells = #[Value.int .u8 0] := rfl
  unfold mz madeCells
  rw [h1]
  simp [h, Nat.mod_one]
theorem make_bytes (len : Nat) (h : len ≤ 4000) (w : World) : (Instr.makeSlice 22 (.int .i64 len) (.int .i64 len)).run Try.prog w = .ok (.slice (some ⟨w.heap.size, 0, none⟩) len len) (w.alloc (.cells (mz len) 5)) := by
  obtain ⟨i0, hi, hzz⟩ := Option.map_eq_some_iff.1 info5
  simp only [Prod.mk.injEq] at hzz
  obtain ⟨hz0, hz1, hz2⟩ := hzz
  rw [run_makeSlice (w := w) 22 5 i0 _ Try.underlying22 hi hz0 .i64 .i64 len len (by omega) (by omega) (by rw [hz1, Int.toNat_natCast]; omega) (by rw [hz2]; omega) (by omega)]
  rw [hz1, Int.toNat_natCast, Nat.mul_one]
  rfl
/-- A row of bytes of the call's own. -/
structure Ob (w : World) (g len : Nat) (c : List Nat) : Prop where
  row : Bytes w (some ⟨g, 0, none⟩) len c
  lt : g < w.heap.size
  free : ∀ i, w.frozen? ⟨g, i, none⟩ = false
theorem add_zero_at (g i : Nat) : (⟨g, 0, none⟩ : Addr).add i = ⟨g, i, none⟩ := by unfold Addr.add; split <;> simp_all
theorem Ob.cell {w : World} {g len : Nat} {c : List Nat} (h : Ob w g len c) {i : Nat} (hi : i < len) : w.cell? ⟨g, i, none⟩ = some (.int .u8 (c.getD i 0 : Nat)) := by
  obtain ⟨ad, h1, h2⟩ := h.row.at hi
  obtain rfl : (⟨g, 0, none⟩ : Addr) = ad := Option.some.inj h1
  rw [add_zero_at] at h2
  exact h2
theorem Ob.near {w w' : World} {g len b : Nat} {c : List Nat} (h : Ob w g len c) (n : Near b w w') (hne : g ≠ b) : Ob w' g len c :=
  ⟨h.row.near n (fun ad e _ => by cases e; exact hne), Nat.lt_of_lt_of_le h.lt n.size, fun i => (World.frozen?_of_block (w := w) (a := ⟨g, i, none⟩) (n.block g h.lt hne)).trans (h.free i)⟩
theorem Ob.alloc {w : World} {g len : Nat} {c : List Nat} (h : Ob w g len c) (o : Obj) : Ob (w.alloc o) g len c := h.near (Near.alloc w.heap.size w o) (Nat.ne_of_lt h.lt)
theorem Ob.drew {w : World} {g len : Nat} {c : List Nat} (h : Ob w g len c) : Ob w.drew g len c := h.near (Near.drew w.heap.size w) (Nat.ne_of_lt h.lt)
theorem Ob.made (w : World) (len : Nat) (h : len ≤ 4000) : Ob (w.alloc (.cells (mz len) 5)) w.heap.size len (List.replicate len 0) := by
  refine ⟨⟨by simp, by omega, fun x hx => by rw [(List.mem_replicate.1 hx).2]; decide, fun _ => ⟨_, rfl, fun i hi => ?_⟩⟩, by simp, fun i => World.frozen?_alloc_new _ _ _ _⟩
  rw [add_zero_at, World.cell?_alloc_new, mz_at len i hi, List.getD_eq_getElem?_getD, List.getElem?_replicate, if_pos hi]
  rfl
theorem Ob.set {w : World} {g len : Nat} {c : List Nat} (h : Ob w g len c) {j v : Nat} (hj : j < len) (hv : v < 256) : Ob (w.setCell ⟨g, j, none⟩ (.int .u8 (v : Nat))) g len (c.set j v) := by
  refine ⟨⟨by rw [List.length_set]; exact h.row.1, h.row.2.1, fun x hx => ?_, fun _ => ⟨_, rfl, fun i hi => ?_⟩⟩, by rw [World.size_setCell]; exact h.lt, fun i => by rw [World.frozen?_setCell]; exact h.free i⟩
  · rcases List.mem_or_eq_of_mem_set hx with h1 | h1
    · exact h.row.2.2.1 x h1
    · rw [h1]; exact hv
  · rw [add_zero_at]
    by_cases e : j = i
    · subst e
      rw [World.cell?_setCell_same _ _ _ (h.cell hj), List.getD_eq_getElem?_getD, List.getElem?_set_self (by rw [h.row.1]; exact hj)]
      rfl
    · rw [World.cell?_setCell_other _ _ _ _ (other e), h.cell hi, List.getD_eq_getElem?_getD, List.getD_eq_getElem?_getD, List.getElem?_set_ne e]
theorem Near.other {b : Nat} (w : World) (i : Nat) (u : Value) : Near b w (w.setCell ⟨b, i, none⟩ u) := Near.set b i w u
/-- The first k bytes are xored. -/
def mix (l m : List Nat) (len k : Nat) : List Nat := (xors l m).take k ++ List.replicate (len - k) 0
theorem mix_step (l m : List Nat) (len k : Nat) (hl : l.length = len) (hm : m.length = len) (hk : k < len) : (mix l m len k).set k (l.getD k 0 ^^^ m.getD k 0) = mix l m len (k + 1) := by
  have hx : (xors l m).length = len := by unfold xors; rw [List.length_zipWith, hl, hm, Nat.min_self]
  have ht : ((xors l m).take k).length = k := by rw [List.length_take, hx]; omega
  unfold mix
  rw [List.set_append_right _ _ (by omega), ht, Nat.sub_self, List.take_add_one, show len - k = (len - (k + 1)) + 1 by omega, List.replicate_succ, List.set_cons_zero]
  have he : (xors l m)[k]? = some (l.getD k 0 ^^^ m.getD k 0) := by
    unfold xors
    rw [List.getElem?_zipWith, List.getElem?_eq_getElem (by omega), List.getElem?_eq_getElem (by omega), List.getD_eq_getElem?_getD, List.getD_eq_getElem?_getD, List.getElem?_eq_getElem (by omega), List.getElem?_eq_getElem (by omega)]
    rfl
  rw [he, List.append_assoc]
  rfl
theorem mix_all (l m : List Nat) (len : Nat) (hl : l.length = len) (hm : m.length = len) : mix l m len len = xors l m := by
  have hx : (xors l m).length = len := by unfold xors; rw [List.length_zipWith, hl, hm, Nat.min_self]
  unfold mix
  rw [Nat.sub_self, List.take_of_length_le (by omega), List.replicate_zero, List.append_nil]
set_option maxRecDepth 100000 in
set_option maxHeartbeats 4000000 in
theorem linear_in (a : Option Addr) (cap len : Nat) (l : List Nat) (a1 : Option Addr) (cap1 : Nat) (m : List Nat) (w : World) (s : Bytes w a len l) (s1 : Bytes w a1 len m) (h1000 : len ≤ 1000) : Calls Try.prog 4 #[.slice a len cap, .slice a1 len cap1] w fun e w' => e = .returned (.bool true) ∧ Below w.heap.size w w' := by
  have HL := Aside0.mk s
  have HM := Aside0.mk s1
  clear s s1
  go_enter Try.func4, Try.ntmps4
  go_upto_region 5 with (go_at_call 11; with_reducible refine (anchor_c _).mono ?_; rintro e w1 ⟨rfl, hb⟩; have HB := Aside0.mk hb; clear hb)
  have hmk := make_bytes len (by omega)
  go_region
  all_goals (
    have P1 := Aside0.mk (((Ob.made w1 len (by omega)).alloc (.cells (mz len) 5)).drew)
    have P2 := Aside0.mk ((Ob.made (w1.alloc (.cells (mz len) 5)) len (by omega)).drew)
    have B2 := Aside0.mk (((HB.out.alloc HB.out.size (.cells (mz len) 5)).alloc (by have := HB.out.size; simp; omega) (.cells (mz len) 5)).drew)
    have L1 := HB.out.size
    rw [World.size_alloc] at P2
    generalize ((w1.alloc (.cells (mz len) 5)).alloc (.cells (mz len) 5)).drew = W at P1 P2 B2 ⊢)
  · have PC := P1
    have PZ := P2
    obtain ⟨p, hp⟩ : ∃ p, w1.heap.size = p := ⟨_, rfl⟩
    obtain ⟨q, hq⟩ : ∃ q, w1.heap.size + 1 = q := ⟨_, rfl⟩
    have hpq : p ≠ q := by omega
    have hpw : w.heap.size ≤ p := by omega
    have hqw : w.heap.size ≤ q := by omega
    rw [hp] at PC
    rw [hq] at PZ
    rw [hp]
    rw [hp] at hq
    rw [hq]
    clear P1 P2 hp hq L1
    have A0 := HL.out.2.1
    go_wp2
    go_loopw [29] (fun i wr => ∃ j : Nat, j ≤ len ∧ i = .int .i64 j ∧ Ob wr p len (mix l m len j) ∧ Ob wr q len (List.replicate len 0) ∧ Below w.heap.size w wr) (fun i _ => len - (intOf i).toNat)
    case atStart => exact ⟨0, by omega, rfl, by simpa [mix] using PC.out, PZ.out, B2.out⟩
    case round =>
      clear PC PZ B2
      obtain ⟨j, hj, rfl, hC, hZ, hB⟩ := hrel
      have PC := Aside0.mk hC
      have PZ := Aside0.mk hZ
      have BB := Aside0.mk hB
      clear hC hZ hB
      by_cases hlt : j < len
      · have hlt2 : (j : Int) < len := by omega
        obtain ⟨ad, rfl, hx⟩ := HL.out.at hlt
        obtain ⟨ae, rfl, hy⟩ := HM.out.at hlt
        have hst := mix_step l m len j HL.out.1 HM.out.1 hlt
        have bx := byte_at HL.out.2.2.1 j
        have by_ := byte_at HM.out.2.2.1 j
        obtain ⟨x, hxe⟩ : ∃ x, l.getD j 0 = x := ⟨_, rfl⟩
        obtain ⟨y, hye⟩ : ∃ y, m.getD j 0 = y := ⟨_, rfl⟩
        rw [hxe] at hst bx hx
        rw [hye] at hst by_ hy
        replace hx := (BB.out.cell (World.block_lt_of_cell? w _ hx)).trans hx
        replace hy := (BB.out.cell (World.block_lt_of_cell? w _ hy)).trans hy
        have h8 := xor8 x y bx by_
        have hv : x ^^^ y < 256 := xor_lt 8 bx by_
        obtain ⟨v, hve⟩ : ∃ v, x ^^^ y = v := ⟨_, rfl⟩
        rw [hve] at h8 hv hst
        have hcell := PC.out.cell hlt
        have hfree := PC.out.free j
        have HST := Aside0.mk hst
        have N1 := Aside0.mk (PC.out.set hlt hv)
        have N2 := Aside0.mk (PZ.out.near (Near.set p j wr (.int .u8 (v : Nat))) (Ne.symm hpq))
        have N3 := Aside0.mk ((Near.set p j wr (.int .u8 (v : Nat))).to0 BB.out hpw)
        clear hst hve hxe hye
        go_wp2
        go_region
        all_goals go_wp2
        all_goals exact ⟨⟨j + 1, by omega, by go_num, HST.out ▸ N1.out.drew, N2.out.drew, N3.out.drew⟩, by simp [intOf]; omega⟩
      · have hge : (len : Int) ≤ j := by omega
        obtain rfl : j = len := by omega
        rw [mix_all l m j HL.out.1 HM.out.1] at PC
        obtain ⟨rc, hrc⟩ : ∃ r, crc 0 (xors l m) = r := ⟨_, rfl⟩
        obtain ⟨ra, hra⟩ : ∃ r, crc 0 l = r := ⟨_, rfl⟩
        obtain ⟨rb, hrb⟩ : ∃ r, crc 0 m = r := ⟨_, rfl⟩
        have hx : rc = ra ^^^ rb := by
          have h := crc_xor l m 0 0 (by decide) (by decide) HL.out.2.2.1 HM.out.2.2.1 (by rw [HL.out.1, HM.out.1])
          rw [Nat.xor_self, hrc, hra, hrb] at h
          exact h
        have hla : ra < 65536 := hra ▸ crc_lt l 0 (by decide) HL.out.2.2.1
        have hlb : rb < 65536 := hrb ▸ crc_lt m 0 (by decide) HM.out.2.2.1
        have h64 := xor64 ra rb hla hlb
        rw [← hx] at h64
        have RC := Aside0.mk hrc
        have RA := Aside0.mk hra
        have RB := Aside0.mk hrb
        have RZ := Aside0.mk (crc_zeros j)
        clear hrc hra hrb hx hla hlb
        go_wp2_with (first
          | (go_at_call 12; with_reducible refine (new_h w _ BB.out).mono ?_; rintro e w2 ⟨b, rfl, hm, hbel, hb⟩; have HH := Aside0.mk hm; have QC := Aside0.mk (PC.out.row.below hbel); have QZ := Aside0.mk (PZ.out.row.below hbel); have hpb : p ≠ b := (by have := PC.out.lt; omega); have hqb : q ≠ b := (by have := PZ.out.lt; omega); clear hm hbel hb)
          | (go_at_call 14; with_reducible refine (sum_h w _ b HH.out _ _ _ _ QC.out (fun ad e _ => by cases e; exact hpb) rc RC.out).mono ?_; rintro e w3 ⟨rfl, hm, hn⟩; have HH' := Aside0.mk hm; have QZ' := Aside0.mk (QZ.out.near hn (fun ad e _ => by cases e; exact hqb)); clear hm hn HH QC QZ; have HH := HH'; have QZ := QZ'; clear HH' QZ')
          | (go_at_call 14; with_reducible refine (sum_h w _ b HH.out _ _ _ l (HL.out.now HH.out) (HL.out.far HH.out) ra RA.out).mono ?_; rintro e w3 ⟨rfl, hm, hn⟩; have HH' := Aside0.mk hm; have QZ' := Aside0.mk (QZ.out.near hn (fun ad e _ => by cases e; exact hqb)); clear hm hn HH QZ; have HH := HH'; have QZ := QZ'; clear HH' QZ')
          | (go_at_call 14; with_reducible refine (sum_h w _ b HH.out _ _ _ m (HM.out.now HH.out) (HM.out.far HH.out) rb RB.out).mono ?_; rintro e w3 ⟨rfl, hm, hn⟩; have HH' := Aside0.mk hm; have QZ' := Aside0.mk (QZ.out.near hn (fun ad e _ => by cases e; exact hqb)); clear hm hn HH QZ; have HH := HH'; have QZ := QZ'; clear HH' QZ')
          | (go_at_call 14; with_reducible refine (sum_h w _ b HH.out _ _ _ _ QZ.out (fun ad e _ => by cases e; exact hqb) 0 RZ.out).mono ?_; rintro e w3 ⟨rfl, hm, -⟩; have HH' := Aside0.mk hm; clear hm HH; have HH := HH'; clear HH'))
        all_goals go_ret
        all_goals exact ⟨by simp, HH.out.bel⟩
  · have PC := P2
    have PZ := P1
    obtain ⟨p, hp⟩ : ∃ p, w1.heap.size + 1 = p := ⟨_, rfl⟩
    obtain ⟨q, hq⟩ : ∃ q, w1.heap.size = q := ⟨_, rfl⟩
    have hpq : p ≠ q := by omega
    have hpw : w.heap.size ≤ p := by omega
    have hqw : w.heap.size ≤ q := by omega
    rw [hp] at PC
    rw [hq] at PZ
    rw [hq] at hp
    rw [hq, hp]
    clear P1 P2 hp hq L1
    have A0 := HL.out.2.1
    go_wp2
    go_loopw [29] (fun i wr => ∃ j : Nat, j ≤ len ∧ i = .int .i64 j ∧ Ob wr p len (mix l m len j) ∧ Ob wr q len (List.replicate len 0) ∧ Below w.heap.size w wr) (fun i _ => len - (intOf i).toNat)
    case atStart => exact ⟨0, by omega, rfl, by simpa [mix] using PC.out, PZ.out, B2.out⟩
    case round =>
      clear PC PZ B2
      obtain ⟨j, hj, rfl, hC, hZ, hB⟩ := hrel
      have PC := Aside0.mk hC
      have PZ := Aside0.mk hZ
      have BB := Aside0.mk hB
      clear hC hZ hB
      by_cases hlt : j < len
      · have hlt2 : (j : Int) < len := by omega
        obtain ⟨ad, rfl, hx⟩ := HL.out.at hlt
        obtain ⟨ae, rfl, hy⟩ := HM.out.at hlt
        have hst := mix_step l m len j HL.out.1 HM.out.1 hlt
        have bx := byte_at HL.out.2.2.1 j
        have by_ := byte_at HM.out.2.2.1 j
        obtain ⟨x, hxe⟩ : ∃ x, l.getD j 0 = x := ⟨_, rfl⟩
        obtain ⟨y, hye⟩ : ∃ y, m.getD j 0 = y := ⟨_, rfl⟩
        rw [hxe] at hst bx hx
        rw [hye] at hst by_ hy
        replace hx := (BB.out.cell (World.block_lt_of_cell? w _ hx)).trans hx
        replace hy := (BB.out.cell (World.block_lt_of_cell? w _ hy)).trans hy
        have h8 := xor8 x y bx by_
        have hv : x ^^^ y < 256 := xor_lt 8 bx by_
        obtain ⟨v, hve⟩ : ∃ v, x ^^^ y = v := ⟨_, rfl⟩
        rw [hve] at h8 hv hst
        have hcell := PC.out.cell hlt
        have hfree := PC.out.free j
        have HST := Aside0.mk hst
        have N1 := Aside0.mk (PC.out.set hlt hv)
        have N2 := Aside0.mk (PZ.out.near (Near.set p j wr (.int .u8 (v : Nat))) (Ne.symm hpq))
        have N3 := Aside0.mk ((Near.set p j wr (.int .u8 (v : Nat))).to0 BB.out hpw)
        clear hst hve hxe hye
        go_wp2
        go_region
        all_goals go_wp2
        all_goals exact ⟨⟨j + 1, by omega, by go_num, HST.out ▸ N1.out.drew, N2.out.drew, N3.out.drew⟩, by simp [intOf]; omega⟩
      · have hge : (len : Int) ≤ j := by omega
        obtain rfl : j = len := by omega
        rw [mix_all l m j HL.out.1 HM.out.1] at PC
        obtain ⟨rc, hrc⟩ : ∃ r, crc 0 (xors l m) = r := ⟨_, rfl⟩
        obtain ⟨ra, hra⟩ : ∃ r, crc 0 l = r := ⟨_, rfl⟩
        obtain ⟨rb, hrb⟩ : ∃ r, crc 0 m = r := ⟨_, rfl⟩
        have hx : rc = ra ^^^ rb := by
          have h := crc_xor l m 0 0 (by decide) (by decide) HL.out.2.2.1 HM.out.2.2.1 (by rw [HL.out.1, HM.out.1])
          rw [Nat.xor_self, hrc, hra, hrb] at h
          exact h
        have hla : ra < 65536 := hra ▸ crc_lt l 0 (by decide) HL.out.2.2.1
        have hlb : rb < 65536 := hrb ▸ crc_lt m 0 (by decide) HM.out.2.2.1
        have h64 := xor64 ra rb hla hlb
        rw [← hx] at h64
        have RC := Aside0.mk hrc
        have RA := Aside0.mk hra
        have RB := Aside0.mk hrb
        have RZ := Aside0.mk (crc_zeros j)
        clear hrc hra hrb hx hla hlb
        go_wp2_with (first
          | (go_at_call 12; with_reducible refine (new_h w _ BB.out).mono ?_; rintro e w2 ⟨b, rfl, hm, hbel, hb⟩; have HH := Aside0.mk hm; have QC := Aside0.mk (PC.out.row.below hbel); have QZ := Aside0.mk (PZ.out.row.below hbel); have hpb : p ≠ b := (by have := PC.out.lt; omega); have hqb : q ≠ b := (by have := PZ.out.lt; omega); clear hm hbel hb)
          | (go_at_call 14; with_reducible refine (sum_h w _ b HH.out _ _ _ _ QC.out (fun ad e _ => by cases e; exact hpb) rc RC.out).mono ?_; rintro e w3 ⟨rfl, hm, hn⟩; have HH' := Aside0.mk hm; have QZ' := Aside0.mk (QZ.out.near hn (fun ad e _ => by cases e; exact hqb)); clear hm hn HH QC QZ; have HH := HH'; have QZ := QZ'; clear HH' QZ')
          | (go_at_call 14; with_reducible refine (sum_h w _ b HH.out _ _ _ l (HL.out.now HH.out) (HL.out.far HH.out) ra RA.out).mono ?_; rintro e w3 ⟨rfl, hm, hn⟩; have HH' := Aside0.mk hm; have QZ' := Aside0.mk (QZ.out.near hn (fun ad e _ => by cases e; exact hqb)); clear hm hn HH QZ; have HH := HH'; have QZ := QZ'; clear HH' QZ')
          | (go_at_call 14; with_reducible refine (sum_h w _ b HH.out _ _ _ m (HM.out.now HH.out) (HM.out.far HH.out) rb RB.out).mono ?_; rintro e w3 ⟨rfl, hm, hn⟩; have HH' := Aside0.mk hm; have QZ' := Aside0.mk (QZ.out.near hn (fun ad e _ => by cases e; exact hqb)); clear hm hn HH QZ; have HH := HH'; have QZ := QZ'; clear HH' QZ')
          | (go_at_call 14; with_reducible refine (sum_h w _ b HH.out _ _ _ _ QZ.out (fun ad e _ => by cases e; exact hqb) 0 RZ.out).mono ?_; rintro e w3 ⟨rfl, hm, -⟩; have HH' := Aside0.mk hm; clear hm HH; have HH := HH'; clear HH'))
        all_goals go_ret
        all_goals exact ⟨by simp, HH.out.bel⟩
theorem linear_calls (a : Option Addr) (cap len : Nat) (l : List Nat) (a1 : Option Addr) (cap1 len1 : Nat) (m : List Nat) (w : World) (s : Bytes w a len l) (hc : len ≤ cap) (s1 : Bytes w a1 len1 m) (hc1 : len1 ≤ cap1) : Calls Try.prog 4 #[.slice a len cap, .slice a1 len1 cap1] w fun e w' => e = .returned (.bool true) ∧ Below w.heap.size w w' := by
  have h1 := s.2.1
  have h2 := s1.2.1
  by_cases h : len ≤ 1000
  · by_cases e : len1 = len
    · subst e
      exact linear_in a cap len1 l a1 cap1 m w s s1 h
    · clear s s1
      have e2 : ((len1 : Int) != len) = true := bne_iff_ne.mpr (by omega)
      go_enter Try.func4, Try.ntmps4
      go_wp2_with (go_at_call 11; with_reducible refine (anchor_c _).mono ?_; rintro e w1 ⟨rfl, hb⟩; have HB := Aside0.mk hb; clear hb)
      go_ret
      exact ⟨rfl, HB.out⟩
  · clear s s1
    go_enter Try.func4, Try.ntmps4
    go_wp2_with (go_at_call 11; with_reducible refine (anchor_c _).mono ?_; rintro e w1 ⟨rfl, hb⟩; have HB := Aside0.mk hb; clear hb)
    go_ret
    exact ⟨rfl, HB.out⟩
end Go.Proofs.Ytjgickfndcfgfaa.HandS
