/- SlotParts by hand: a text in any parts has its sum. -/
import Derived.Test.YtjgickfndcfgfaaOwnSlotAgain
import Derived.Deep.AppendLies
namespace Go.Proofs.Ytjgickfndcfgfaa.HandS
open Go.RowKit Go.Proofs.Ytjgickfndcfgfaa.HandC
set_option linter.unusedVariables false
set_option linter.unusedSimpArgs false
theorem info5' : (Try.prog.info? 5).map (fun i => (i.zero, i.size, i.bytes)) = some (some (.int .u8 0), 1, 1) := by kernel_rfl
def enc8 (l : List Nat) : List Value := l.map fun x => .int .u8 (x : Nat)
/-- The parts so far, laid together. -/
structure Pa (w wr : World) (b : Nat) (v : Value) (l : List Nat) : Prop where
  mh : Mh w wr b
  own : wr.ownsRow w.heap.size 5 1 v l.length (enc8 l)
  ne : ∀ g, v.ownBlock = some g → g ≠ b
theorem enc8_cells {w : World} {ad : Addr} {len : Nat} {l : List Nat} (h : Bytes w (some ad) len l) : ∀ j u, (enc8 l)[j]? = some u → w.cell? (ad.add j) = some u := by
  intro j u hu
  unfold enc8 at hu
  rw [List.getElem?_map] at hu
  obtain ⟨x, hx, rfl⟩ := Option.map_eq_some_iff.1 hu
  have hj := (List.getElem?_eq_some_iff.1 hx).1
  obtain ⟨ad', e, hc⟩ := h.at (i := j) (by rw [← h.1]; exact hj)
  obtain rfl : ad = ad' := Option.some.inj e
  rw [hc, List.getD_eq_getElem?_getD, hx]
  rfl
theorem Pa.same {w wr wr' : World} {b : Nat} {v : Value} {l : List Nat} (h : Pa w wr b v l) (h2 : Mh w wr' b) (n : Near b wr wr') : Pa w wr' b v l := by
  refine ⟨h2, ?_, h.ne⟩
  exact h.own.kept (w' := wr') (row := some b) ⟨n.os, n.tape, n.output, n.size, fun k hk hne => n.block k hk (fun e => hne (by rw [e]))⟩ (by
    rcases hv : v.ownBlock with _ | g
    · exact .inl rfl
    · exact .inr (fun e => h.ne g hv (Option.some.inj e)))
/-- What is laid together is read. -/
theorem Pa.row {w wr : World} {b : Nat} {v : Value} {l : List Nat} (h : Pa w wr b v l) (hl : ∀ x ∈ l, x < 256) : ∃ (a : Option Addr) (cap : Nat), v = .slice a l.length cap ∧ Bytes wr a l.length l ∧ ∀ ad, a = some ad → 0 < l.length → ad.block ≠ b := by
  rcases h.own.2 with ⟨rfl, h0⟩ | ⟨g, cap, cur, rfl, hb, hg, h1, h2, h3, h4⟩
  · obtain rfl : l = [] := List.eq_nil_of_length_eq_zero h0
    exact ⟨none, 0, rfl, ⟨rfl, by decide, hl, fun hp => absurd hp (by decide)⟩, fun ad e => by cases e⟩
  · refine ⟨some ⟨g, 0, none⟩, cap, rfl, ⟨rfl, by unfold maxLen at h2; omega, hl, fun _ => ⟨_, rfl, fun i hi => ?_⟩⟩, fun ad e _ => by cases e; exact h.ne g rfl⟩
    refine h.own.cells (g := g) rfl i _ ?_
    unfold enc8
    rw [List.getElem?_map, List.getElem?_eq_getElem hi, List.getD_eq_getElem?_getD, List.getElem?_eq_getElem hi]
    rfl
section
variable {ops : Array Oper} {rest : List Oper} {o : Oper} {a : Act} {Q : Exit → Act → World → Prop} {w wr : World}
theorem append_part {b : Nat} {v : Value} {l m : List Nat} (hgd : o.guard = none) (s x : Operand) (ho : o.op = .call { callee := .builtin .append, args := #[s, x], argTypes := #[22, 22] })
    (hs : a.eval s = v) (hP : Pa w wr b v l) (ad : Addr) (c : Nat) (hx : a.eval x = .slice (some ad) m.length c) (hm : Bytes wr (some ad) m.length m) (h0 : 0 < m.length) (hlen : l.length + m.length ≤ 10000)
    (h : ∀ v' w', Pa w w' b v' (l ++ m) → wpList Try.prog ops Q rest (a.put o.dst v') w') : wpList Try.prog ops Q (o :: rest) a wr := by
  obtain ⟨i0, hi, hzz⟩ := Option.map_eq_some_iff.1 info5'
  simp only [Prod.mk.injEq] at hzz
  obtain ⟨hz0, hz1, hz2⟩ := hzz
  refine wpList_append_lies wr hgd s x 22 ho w.heap.size 5 i0 _ 1 1 Try.underlying22 hi hz0 hz1 hz2 rfl (by decide) v l.length (enc8 l) hs hP.own ad m.length c (enc8 m) hx (by simp [enc8]) (enc8_cells hm) (fun u hu => by
    obtain ⟨y, _, rfl⟩ := List.mem_map.1 hu
    rfl) h0 (by unfold maxLen; omega) (by omega) hP.mh.bel.size _ rfl ?_
  intro g cap w' hown hgrow hat hlt
  refine h _ w' ⟨⟨?_, hP.mh.new, ?_⟩, ?_, ?_⟩
  · have hbb := hgrow.block b hP.mh.hh.lt (fun e => hP.ne b e.symm rfl)
    have hn : Near wr.heap.size wr w' ∨ True := .inr trivial
    have hc : ∀ i, w'.cell? ⟨b, i, none⟩ = wr.cell? ⟨b, i, none⟩ := fun i => World.cell?_of_block (w := wr) hbb
    have hf : ∀ i, w'.frozen? ⟨b, i, none⟩ = wr.frozen? ⟨b, i, none⟩ := fun i => World.frozen?_of_block (w := wr) (a := ⟨b, i, none⟩) hbb
    exact hP.mh.hh.imp (fun h => ⟨Nat.lt_of_lt_of_le h.lt hgrow.size, (hc _).trans h.done, (hc _).trans h.lock, fun k hk => (hc _).trans (h.tabs k hk), fun k => (hf k).trans (h.free k)⟩) (fun h => ⟨Nat.lt_of_lt_of_le h.lt hgrow.size, (hc _).trans h.done, (hc _).trans h.lock, fun k hk => (hc _).trans (h.tabs k hk), fun k => (hf k).trans (h.free k)⟩)
  · exact hP.mh.bel.grown hgrow hP.mh.bel.size (fun k hk => (hP.own.lt k hk).1)
  · rw [List.length_append]
    have e : enc8 (l ++ m) = enc8 l ++ enc8 m := by unfold enc8; rw [List.map_append]
    rw [e]
    exact hown
  · intro g' hg' e
    have hg : g = g' := by simpa [Value.ownBlock] using hg'
    subst hg
    rcases hat with hat | hat
    · exact hP.ne g hat e
    · have := hP.mh.hh.lt
      omega
theorem run_append_zero (t ty e : TypeId) (i : TypeInfo) (base size : Nat) (ht : Try.prog.underlying t = some (.slice e)) (hi : Try.prog.info? e = some i)
    (v : Value) (n : Nat) (xs : List Value) (hown : wr.ownsRow base e size v n xs) (ai : Option Addr) (c : Nat) :
    (Builtin.append_ #[t, t] ty #[v, .slice ai 0 c]).run Try.prog wr = .ok v wr := by
  rcases hown.2 with ⟨rfl, rfl⟩ | ⟨g, cap, cur, rfl, _, _, hnc, _⟩
  · cases ai <;> simp [Builtin.append_, run_underlying ht, sizeOf, typeInfo, hi, Builtin.lenOf, Builtin.firstCells, loadCells, loadCellsFrom]
  · cases ai <;> simp [Builtin.append_, run_underlying ht, sizeOf, typeInfo, hi, Builtin.lenOf, Builtin.firstCells, hnc, storeCells, loadCells, loadCellsFrom]
theorem append_no_part {b : Nat} {v : Value} {l : List Nat} (hgd : o.guard = none) (s x : Operand) (ho : o.op = .call { callee := .builtin .append, args := #[s, x], argTypes := #[22, 22] })
    (hs : a.eval s = v) (hP : Pa w wr b v l) (ai : Option Addr) (c : Nat) (hx : a.eval x = .slice ai 0 c)
    (h : wpList Try.prog ops Q rest (a.put o.dst v) wr) : wpList Try.prog ops Q (o :: rest) a wr := by
  obtain ⟨i0, hi, hzz⟩ := Option.map_eq_some_iff.1 info5'
  refine wpList_plain hgd fun K hK => ?_
  have hrun := run_append_zero 22 o.type 5 i0 w.heap.size 1 Try.underlying22 hi v l.length (enc8 l) hP.own ai c
  unfold Oper.wp
  simp [execOp, ho, resolve, invoke, builtin, hs, hx, hrun, Result.andThen]
  exact hK _ _ h
end
set_option maxRecDepth 100000 in
set_option maxHeartbeats 8000000 in
theorem parts_in (a : Option Addr) (cap len : Nat) (ls : List (List Nat)) (w : World) (s : Rows2 w a len ls) (h60 : len ≤ 60) : Calls Try.prog 5 #[.slice a len cap] w fun e w' => e = .returned (.bool true) ∧ Below w.heap.size w w' := by
  have HL := Aside0.mk s
  clear s
  go_enter Try.func5, Try.ntmps5
  go_wp2_with (first
    | (go_at_call 11; with_reducible refine (anchor_c _).mono ?_; rintro e w1 ⟨rfl, hb⟩; have HB := Aside0.mk hb; clear hb)
    | (go_at_call 12; with_reducible refine (new_h w _ HB.out).mono ?_; rintro e w2 ⟨b, rfl, hm, -, -⟩; have HM := Aside0.mk hm; clear hm))
  go_loopw [4, 5, 16] (fun v c i wr => ∃ (j : Nat) (l : List Nat) (r : Nat), j ≤ len ∧ i = .int .i64 j ∧ c = .int .i64 r ∧ crc 0 l = r ∧ l.length ≤ 100 * j ∧ (∀ x ∈ l, x < 256) ∧ Pa w wr b v l) (fun _ _ i _ => len - (intOf i).toNat)
  case atStart => exact ⟨0, [], 0, by omega, rfl, rfl, rfl, by simp, by simp, HM.out, World.ownsRow_nil _ _ _ _, fun g e => by cases e⟩
  case round =>
    clear HM
    obtain ⟨j, l, r, hj, rfl, rfl, hr, hll, hlb, hP⟩ := hrel
    have HP := Aside0.mk hP
    have HR := Aside0.mk hr
    have HLB := Aside0.mk hlb
    have hr16 : r < 65536 := hr ▸ crc_lt l 0 (by decide) hlb
    clear hP hr hlb
    by_cases hlt : j < len
    · have hlt2 : (j : Int) < len := by omega
      obtain ⟨ad, rfl, ai, ci, hcell, hci, hb⟩ := HL.out.at hlt
      obtain ⟨m, hm⟩ : ∃ m, ls.getD j [] = m := ⟨_, rfl⟩
      rw [hm] at hcell hci hb
      clear hm
      have hmax := hb.2.1
      have HBY := Aside0.mk hb
      replace hcell := (HP.out.mh.bel.cell (World.block_lt_of_cell? w _ hcell)).trans hcell
      clear hb
      by_cases h100 : m.length ≤ 100
      · obtain ⟨r2, hr2⟩ : ∃ r2, crc r m = r2 := ⟨_, rfl⟩
        have HR2 := Aside0.mk hr2
        have HR3 := Aside0.mk (show crc 0 (l ++ m) = r2 by rw [crc_append, HR.out, hr2])
        have hr26 : r2 < 65536 := hr2 ▸ crc_lt m r hr16 HBY.out.2.2.1
        have HLM : Aside0 (∀ x ∈ l ++ m, x < 256) := Aside0.mk (fun x hx => (List.mem_append.1 hx).elim (HLB.out x) (HBY.out.2.2.1 x))
        have HR4 : Aside0 (crc r2 [] = r2) := Aside0.mk rfl
        have HNIL : Aside0 (∀ W : World, Bytes W none 0 []) := Aside0.mk (fun W => ⟨rfl, by decide, by simp, fun h => absurd h (by decide)⟩)
        have HLEN : Aside0 ((l ++ m).length ≤ 100 * (j + 1)) := Aside0.mk (by rw [List.length_append]; omega)
        clear hr2
        by_cases h0 : 0 < m.length
        · cases ai with
          | none =>
            exfalso
            obtain ⟨ad', e, _⟩ := HBY.out.2.2.2 h0
            cases e
          | some ae =>
            go_wp2_with (first
              | (at_builtin; refine append_part (w := w) rfl _ _ rfl rfl HP.out ae ci rfl (HBY.out.now HP.out.mh) h0 (by omega) ?_; intro v' w3 hP'; have HP' := Aside0.mk hP'; clear hP')
              | (go_at_call 15; with_reducible refine (more_h w _ b HP'.out.mh r _ _ _ m (HBY.out.now HP'.out.mh) (HBY.out.far HP'.out.mh) hr16 r2 HR2.out).mono ?_; rintro e w4 ⟨rfl, hm, hn⟩; have HP2 := Aside0.mk (HP'.out.same hm hn); clear hm hn)
              | (go_at_call 15; with_reducible refine (more_h w _ b HP2.out.mh r2 _ _ _ [] (HNIL.out _) (fun ad e => by cases e) hr26 r2 HR4.out).mono ?_; rintro e w5 ⟨rfl, hm, hn⟩; have HP3 := Aside0.mk (HP2.out.same hm hn); clear hm hn))
            all_goals exact ⟨⟨j + 1, l ++ m, r2, by omega, by go_num, rfl, HR3.out, HLEN.out, HLM.out, HP3.out⟩, by simp [intOf]; omega⟩
        · obtain ⟨z, hz⟩ : ∃ z, m.length = z := ⟨_, rfl⟩
          have hz0 : z = 0 := by omega
          have hlm : l ++ m = l := by rw [List.eq_nil_of_length_eq_zero (by omega : m.length = 0), List.append_nil]
          rw [hlm] at HR3 HLEN HLM
          rw [hz, hz0] at hcell HBY
          have HP' := HP
          clear h0 hz hz0 hlm hci h100 hmax
          go_wp2_with (first
              | (at_builtin; refine append_no_part (w := w) rfl _ _ rfl rfl HP.out ai ci rfl ?_)
              | (go_at_call 15; with_reducible refine (more_h w _ b HP'.out.mh r _ _ _ m (HBY.out.now HP'.out.mh) (HBY.out.far HP'.out.mh) hr16 r2 HR2.out).mono ?_; rintro e w4 ⟨rfl, hm, hn⟩; have HP2 := Aside0.mk (HP'.out.same hm hn); clear hm hn)
              | (go_at_call 15; with_reducible refine (more_h w _ b HP2.out.mh r2 _ _ _ [] (HNIL.out _) (fun ad e => by cases e) hr26 r2 HR4.out).mono ?_; rintro e w5 ⟨rfl, hm, hn⟩; have HP3 := Aside0.mk (HP2.out.same hm hn); clear hm hn))
          all_goals exact ⟨⟨j + 1, l, r2, by omega, by go_num, rfl, HR3.out, HLEN.out, HLM.out, HP3.out⟩, by simp [intOf]; omega⟩
      · go_wp2
        go_ret
        exact ⟨rfl, HP.out.mh.bel⟩
    · have hge : (len : Int) ≤ j := by omega
      obtain ⟨a2, c2, rfl, hrow, hfar⟩ := HP.out.row HLB.out
      have HROW := Aside0.mk (And.intro hrow hfar)
      have hr0 : (0 : Int) ≤ r := by omega
      have hr1 : (r : Int) < 65536 := by omega
      have hll2 : l.length ≤ 9223372036854775807 := hrow.2.1
      clear hrow hfar
      go_wp2_with (go_at_call 14; with_reducible refine (sum_h w _ b HP.out.mh _ _ _ l HROW.out.1 HROW.out.2 r HR.out).mono ?_; rintro e w4 ⟨rfl, hm, -⟩; have HE := Aside0.mk hm; clear hm)
      go_ret
      exact ⟨by simp [hr0, hr1] <;> omega, HE.out.bel⟩
theorem parts_calls (a : Option Addr) (cap len : Nat) (ls : List (List Nat)) (w : World) (s : Rows2 w a len ls) (hc : len ≤ cap) : Calls Try.prog 5 #[.slice a len cap] w fun e w' => e = .returned (.bool true) ∧ Below w.heap.size w w' := by
  by_cases h : len ≤ 60
  · exact parts_in a cap len ls w s h
  · have hm := s.2.1
    clear s
    go_enter Try.func5, Try.ntmps5
    go_wp2_with (go_at_call 11; with_reducible refine (anchor_c _).mono ?_; rintro e w1 ⟨rfl, hb⟩; have HB := Aside0.mk hb; clear hb)
    go_ret
    exact ⟨rfl, HB.out⟩
end Go.Proofs.Ytjgickfndcfgfaa.HandS
