/- The examples of slot's laws; the document's tag and slot, by hand. -/
import Derived.Test.YtjgickfndcfgfaaHandT
import Derived.Lib.SlBytesConst
import Derived.Deep.RegionHeld3
namespace Go.Proofs.Ytjgickfndcfgfaa.HandS
open Go.RowKit Go.Proofs.Ytjgickfndcfgfaa.HandC
set_option linter.unusedVariables false
set_option linter.unusedSimpArgs false
/-- A hasher of the call's own: block b is new since w0. -/
structure Mh (w0 w : World) (b : Nat) : Prop where
  hh : Hh w b
  new : w0.heap.size ≤ b
  bel : Below w0.heap.size w0 w
theorem Near.to0 {b : Nat} {w0 w w' : World} (h : Below w0.heap.size w0 w) (n : Near b w w') (hb : w0.heap.size ≤ b) : Below w0.heap.size w0 w' := n.to h hb (Nat.le_refl _)
theorem Mh.step {w0 w w' : World} {b : Nat} (h : Mh w0 w b) (h2 : Hh w' b) (n : Near b w w') : Mh w0 w' b := ⟨h2, h.new, n.to0 h.bel h.new⟩
theorem Mh.go {w0 w w' : World} {b : Nat} (h : Mh w0 w b) (n : Below w.heap.size w w') : Mh w0 w' b := ⟨h.hh.below n h.hh.lt, h.new, h.bel.trans (n.mono h.bel.size)⟩
theorem Mh.same {w0 w w' : World} {b : Nat} (h : Mh w0 w b) (n : Same w w') : Mh w0 w' b := h.go (n.below _)
theorem Mh.alloc {w0 w : World} {b : Nat} (h : Mh w0 w b) (o : Obj) : Mh w0 (w.alloc o) b := h.go (Below.alloc (Below.refl _ _) (Nat.le_refl _) o)
theorem new_h (w0 w : World) (h : Below w0.heap.size w0 w) : Calls Try.prog 12 #[] w fun e w' => ∃ b, e = .returned (.pointer (some ⟨b, 0, none⟩)) ∧ Mh w0 w' b ∧ Below w.heap.size w w' ∧ b = w.heap.size :=
  (new_c w).mono fun e w' ⟨h1, h2, h3⟩ => ⟨w.heap.size, h1, ⟨.inl h2, h.size, h.trans (h3.mono h.size)⟩, h3, rfl⟩
theorem more_h (w0 w : World) (b : Nat) (h : Mh w0 w b) (c0 : Nat) (a : Option Addr) (cap len : Nat) (l : List Nat) (hl : Bytes w a len l) (hne : ∀ ad, a = some ad → 0 < len → ad.block ≠ b) (hc0 : c0 < 65536) (r : Nat) (hr : crc c0 l = r) :
    Calls Try.prog 15 #[.pointer (some ⟨b, 0, none⟩), .int .i64 c0, .slice a len cap] w fun e w' => e = .returned (.int .i64 r) ∧ Mh w0 w' b ∧ Near b w w' :=
  (more_c w b h.hh c0 a cap len l hl hne hc0).mono fun e w' ⟨h1, h2, h3⟩ => ⟨hr ▸ h1, h.step h2 h3, h3⟩
theorem sum_h (w0 w : World) (b : Nat) (h : Mh w0 w b) (a : Option Addr) (cap len : Nat) (l : List Nat) (hl : Bytes w a len l) (hne : ∀ ad, a = some ad → 0 < len → ad.block ≠ b) (r : Nat) (hr : crc 0 l = r) :
    Calls Try.prog 14 #[.pointer (some ⟨b, 0, none⟩), .slice a len cap] w fun e w' => e = .returned (.int .i64 r) ∧ Mh w0 w' b ∧ Near b w w' :=
  (sum_c w b h.hh a cap len l hl hne).mono fun e w' ⟨h1, h2, h3⟩ => ⟨hr ▸ h1, h.step h2 h3, h3⟩
theorem slot_h (w0 w : World) (b : Nat) (h : Mh w0 w b) (s : ByteArray) (hs : s.size < 4294967296) (r : Nat) (hr : crc 0 (nats (tagOf s)) % 64 = r) :
    Calls Try.prog 18 #[.pointer (some ⟨b, 0, none⟩), .string s] w fun e w' => e = .returned (.int .i64 r) ∧ Mh w0 w' b ∧ Near b w w' :=
  (slot_c w b h.hh s hs).mono fun e w' ⟨h1, h2, h3⟩ => ⟨hr ▸ h1, h.step h2 h3, h3⟩
theorem tag_h (s : ByteArray) (w : World) (hs : s.size < 4294967296) (t : ByteArray) (ht : tagOf s = t) :
    Calls Try.prog 16 #[.string s] w fun e w' => e = .returned (.string t) ∧ Same w w' := ht ▸ tag_c s w hs
/-- A row of the call's arguments is no row of its own. -/
theorem Bytes.far {w0 w : World} {b : Nat} {a : Option Addr} {len : Nat} {l : List Nat} (h : Bytes w0 a len l) (m : Mh w0 w b) : ∀ ad, a = some ad → 0 < len → ad.block ≠ b := fun ad e hp => by
  have h1 := h.lt ad e hp
  have h2 := m.new
  omega
theorem Bytes.now {w0 w : World} {b : Nat} {a : Option Addr} {len : Nat} {l : List Nat} (h : Bytes w0 a len l) (m : Mh w0 w b) : Bytes w a len l := h.below m.bel
theorem Bytes.take {w : World} {a : Option Addr} {len : Nat} {l : List Nat} (h : Bytes w a len l) {n : Nat} (hn : n ≤ len) : Bytes w a n (l.take n) := by
  refine ⟨by rw [List.length_take, h.1]; omega, by have := h.2.1; omega, fun x hx => h.2.2.1 x (List.mem_of_mem_take hx), fun hp => ?_⟩
  obtain ⟨ad, h1, h2⟩ := h.2.2.2 (by omega)
  refine ⟨ad, h1, fun i hi => ?_⟩
  rw [h2 i (by omega), List.getD_eq_getElem?_getD, List.getD_eq_getElem?_getD, List.getElem?_take, if_pos hi]
theorem add_add (ad : Addr) (i j : Nat) : (ad.add i).add j = ad.add (i + j) := by
  unfold Addr.add
  by_cases h1 : i = 0 <;> by_cases h2 : j = 0 <;> simp [h1, h2, Nat.add_assoc]
theorem Bytes.drop {w : World} {a : Option Addr} {len : Nat} {l : List Nat} (h : Bytes w a len l) {n : Nat} (hn : n ≤ len) : Bytes w (a.map (·.add n)) (len - n) (l.drop n) := by
  refine ⟨by rw [List.length_drop, h.1], by have := h.2.1; omega, fun x hx => h.2.2.1 x (List.mem_of_mem_drop hx), fun hp => ?_⟩
  obtain ⟨ad, h1, h2⟩ := h.2.2.2 (by omega)
  refine ⟨ad.add n, by rw [h1]; rfl, fun i hi => ?_⟩
  rw [add_add, h2 (n + i) (by omega), List.getD_eq_getElem?_getD, List.getD_eq_getElem?_getD, List.getElem?_drop]
theorem Bytes.drop2 {w : World} {a : Option Addr} {len cap : Nat} {l : List Nat} (h : Bytes w a len l) {n : Nat} (hn : n ≤ len) (hc : len ≤ cap) : Bytes w (if cap = n then a else a.map (·.add n)) (len - n) (l.drop n) := by
  by_cases e : cap = n
  · rw [if_pos e]
    have h2 := h.drop hn
    exact ⟨h2.1, h2.2.1, h2.2.2.1, fun hp => by omega⟩
  · rw [if_neg e]
    exact h.drop hn
theorem cut1 (a : Option Addr) (len cap at_ : Nat) (w : World) (h1 : at_ ≤ len) (h2 : len ≤ cap) : (Instr.slice 22 (.slice a len cap) none (some (.int .i64 (at_ : Int))) none).run Try.prog w = .ok (.slice a at_ cap) w := by
  rw [run_slice_h w 22 a len cap Try.underlying22 .i64 at_ (by omega) (by omega)]
  rw [show (sizeOf (Try.prog.elem 22)).run Try.prog w = .ok 1 w by kernel_rfl]
  simp [Result.andThen, sliced]
  intro _
  cases a with
  | none => rfl
  | some ad => simp [Addr.add]
theorem cut2 (a : Option Addr) (len cap at_ : Nat) (w : World) (h1 : at_ ≤ len) (h2 : len ≤ cap) : (Instr.slice 22 (.slice a len cap) (some (.int .i64 (at_ : Int))) none none).run Try.prog w = .ok (.slice (if cap = at_ then a else a.map (·.add at_)) (len - at_) (cap - at_)) w := by
  rw [run_slice_l w 22 a len cap Try.underlying22 .i64 at_ (by omega) (by omega)]
  rw [show (sizeOf (Try.prog.elem 22)).run Try.prog w = .ok 1 w by kernel_rfl]
  simp [Result.andThen, sliced]
theorem digits_row (w : World) (fr : Nat × Nat) : Bytes (w.alloc (.cells #[.int .u8 49, .int .u8 50, .int .u8 51, .int .u8 52, .int .u8 53, .int .u8 54, .int .u8 55, .int .u8 56, .int .u8 57] 5 fr)) (some ⟨w.heap.size, 0, none⟩) 9 [49, 50, 51, 52, 53, 54, 55, 56, 57] := by
  refine ⟨rfl, by decide, by decide, fun _ => ⟨_, rfl, fun i hi => ?_⟩⟩
  have hadd : (⟨w.heap.size, 0, none⟩ : Addr).add i = ⟨w.heap.size, i, none⟩ := by unfold Addr.add; split <;> simp_all
  rw [hadd, World.cell?_alloc_mark]
  have : i = 0 ∨ i = 1 ∨ i = 2 ∨ i = 3 ∨ i = 4 ∨ i = 5 ∨ i = 6 ∨ i = 7 ∨ i = 8 := by omega
  rcases this with rfl | rfl | rfl | rfl | rfl | rfl | rfl | rfl | rfl <;> rfl
theorem digits_sum : crc 0 [49, 50, 51, 52, 53, 54, 55, 56, 57] = 12739 := by decide +kernel
theorem tag1 : tagOf ⟨#[123, 117, 115, 101, 114, 49, 125, 46, 120]⟩ = ⟨#[117, 115, 101, 114, 49]⟩ := by decide +kernel
theorem tag2 : tagOf ⟨#[123, 125, 120]⟩ = ⟨#[123, 125, 120]⟩ := by decide +kernel
theorem tag3 : tagOf ⟨#[97, 123, 98, 123, 99, 125, 100, 125]⟩ = ⟨#[98, 123, 99]⟩ := by decide +kernel
theorem conv_const (w : World) (C : Array Value) (n c : Nat) : (convert 22 22 (.slice (some ⟨w.heap.size, 0, none⟩) n c)).run Try.prog (w.alloc (.cells C 5)) = .ok (.slice (some ⟨w.heap.size, 0, none⟩) n c) (w.alloc (.cells C 5 (C.size, C.size + 1))) := Lib.run_convert_bytes_const w 22 5 C n c Try.underlying22 Try.underlying5
set_option maxRecDepth 100000 in
set_option maxHeartbeats 4000000 in
theorem anchor_c (w : World) : Calls Try.prog 11 #[] w fun e w' => e = .returned (.bool true) ∧ Below w.heap.size w w' := by
  have hcv := conv_const
  go_enter Try.func11, Try.ntmps11
  go_wp2_with (first
    | (go_at_call 12; with_reducible refine (new_h w w (Below.refl _ _)).mono ?_; rintro e w1 ⟨b, rfl, hm, -, -⟩; have HM := Aside0.mk hm; clear hm)
    | (go_at_call 14; with_reducible refine (sum_h w _ b (HM.out.alloc _) _ _ _ _ (digits_row _ _) (fun ad e _ => by cases e; exact Nat.ne_of_gt HM.out.hh.lt) _ digits_sum).mono ?_; rintro e w2 ⟨rfl, hm, -⟩; have HM2 := Aside0.mk hm; clear hm)
    | (go_at_call 16; with_reducible refine (tag_h _ _ (by decide) _ tag1).mono ?_; rintro e w3 ⟨rfl, hm⟩; have HM3 := Aside0.mk (HM2.out.same hm); clear hm)
    | (go_at_call 16; with_reducible refine (tag_h _ _ (by decide) _ tag2).mono ?_; rintro e w4 ⟨rfl, hm⟩; have HM4 := Aside0.mk (HM3.out.same hm); clear hm)
    | (go_at_call 16; with_reducible refine (tag_h _ _ (by decide) _ tag3).mono ?_; rintro e w5 ⟨rfl, hm⟩; have HM5 := Aside0.mk (HM4.out.same hm); clear hm))
  go_ret
  exact ⟨rfl, HM5.out.bel⟩
set_option maxRecDepth 100000 in
set_option maxHeartbeats 4000000 in
/-- SlotSums: the sums are the document's, in one part or in two. -/
theorem sums_in (a : Option Addr) (cap len : Nat) (l : List Nat) (at_ : Nat) (w : World) (s : Bytes w a len l) (hc : len ≤ cap) (h2000 : len ≤ 2000) (hat : at_ ≤ len) : Calls Try.prog 3 #[.slice a len cap, .int .i64 at_] w fun e w' => e = .returned (.bool true) ∧ Below w.heap.size w w' := by
  have HL := Aside0.mk s
  clear s
  go_enter Try.func3, Try.ntmps3
  go_upto_region 6 with (first
    | (go_at_call 11; with_reducible refine (anchor_c _).mono ?_; rintro e w1 ⟨rfl, hb⟩; have HB := Aside0.mk hb; clear hb)
    | (go_at_call 12; with_reducible refine (new_h w _ HB.out).mono ?_; rintro e w2 ⟨b, rfl, hm, -, -⟩; have HM := Aside0.mk hm; clear hm))
  have HN := Aside0.mk (HL.out.now HM.out)
  have HC := Aside0.mk (HL.out.take hat)
  have hs2 := fun W => cut2 a len cap at_ W hat hc
  have hd := HL.out.drop2 hat hc
  obtain ⟨a2, ha2⟩ : ∃ a2, (if cap = at_ then a else a.map (·.add at_)) = a2 := ⟨_, rfl⟩
  rw [ha2] at hd
  simp only [ha2] at hs2
  have HD := Aside0.mk hd
  have hs1 := fun W => cut1 a len cap at_ W hat hc
  clear hd ha2
  obtain ⟨r, hr⟩ : ∃ r, crc 0 l = r := ⟨_, rfl⟩
  obtain ⟨r1, hr1⟩ : ∃ r, crc 0 (l.take at_) = r := ⟨_, rfl⟩
  have hr2 : crc r1 (l.drop at_) = r := by rw [← hr1, ← crc_append, List.take_append_drop]; exact hr
  have hr3 : r1 < 65536 := by rw [← hr1]; exact crc_lt _ 0 (by decide) (fun x hx => HL.out.2.2.1 x (List.mem_of_mem_take hx))
  have R := Aside0.mk hr
  have R1 := Aside0.mk hr1
  have R2 := Aside0.mk hr2
  have R3 := Aside0.mk hr3
  clear hr hr1 hr2 hr3
  have hat0 : (0 : Int) ≤ at_ := by omega
  have hat2 : (at_ : Int) ≤ len := by omega
  have hcap : (len : Int) ≤ cap := by omega
  have hat3 : (at_ : Int) ≤ cap := by omega
  go_wp2_with (go_at_call 13; with_reducible refine (ref_sum_c _ _ _ _ l HN.out).mono ?_; rintro e w3 ⟨rfl, rfl⟩; rw [R.out])
  go_region_held3 (fun w' => Mh w w' b) (first | exact HM.out.same (Same.refl _).drew | assumption)
   (first
    | (go_at_call 14; with_reducible refine (sum_h w _ b (by assumption) _ _ _ l (HL.out.now (by assumption)) (HL.out.far (by assumption)) r R.out).mono ?_; rintro e w3 ⟨rfl, hm, -⟩)
    | (go_at_call 14; with_reducible refine (sum_h w _ b (by assumption) _ _ _ _ (HC.out.now (by assumption)) (HC.out.far (by assumption)) r1 R1.out).mono ?_; rintro e w3 ⟨rfl, hm, -⟩)
    | (go_at_call 15; with_reducible refine (more_h w _ b (by assumption) _ _ _ _ _ (HD.out.now (by assumption)) (HD.out.far (by assumption)) R3.out r R2.out).mono ?_; rintro e w3 ⟨rfl, hm, -⟩))
  go_wp2
  go_ret
  exact ⟨by simp, (show Mh w _ b by assumption).bel⟩
theorem sums_out (a : Option Addr) (cap len : Nat) (at_ : Int) (w : World) (hlen : len ≤ 9223372036854775807) (h : (2000 < len) ∨ (len ≤ 2000 ∧ at_ < 0) ∨ (len ≤ 2000 ∧ 0 ≤ at_ ∧ (len : Int) < at_)) : Calls Try.prog 3 #[.slice a len cap, .int .i64 at_] w fun e w' => e = .returned (.bool true) ∧ Below w.heap.size w w' := by
  rcases h with h | ⟨h, h1⟩ | ⟨h, h1, h2⟩
  all_goals (go_enter Try.func3, Try.ntmps3)
  all_goals go_wp2_with (go_at_call 11; with_reducible refine (anchor_c _).mono ?_; rintro e w1 ⟨rfl, hb⟩; have HB := Aside0.mk hb; clear hb)
  all_goals go_ret
  all_goals exact ⟨rfl, HB.out⟩
theorem sums_calls (a : Option Addr) (cap len : Nat) (l : List Nat) (at_ : Int) (w : World) (s : Bytes w a len l) (hc : len ≤ cap) : Calls Try.prog 3 #[.slice a len cap, .int .i64 at_] w fun e w' => e = .returned (.bool true) ∧ Below w.heap.size w w' := by
  by_cases h : len ≤ 2000 ∧ 0 ≤ at_ ∧ at_ ≤ len
  · obtain ⟨h1, h2, h3⟩ := h
    obtain ⟨n, rfl⟩ : ∃ n : Nat, at_ = n := ⟨at_.toNat, by omega⟩
    exact sums_in a cap len l n w s hc h1 (by omega)
  · exact sums_out a cap len at_ w s.2.1 (by omega)
end Go.Proofs.Ytjgickfndcfgfaa.HandS
