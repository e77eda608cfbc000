/- The machine's side of JudgeClashes, part 1 of 1: functions and their contracts, printed by a program of this session. -/
import Derived.Test.YtcpiccgnaecdkaaProg
import Derived.Below
import Derived.Deep.Draws
import Derived.Deep.AppendLies
import Derived.Maps.AppendAt
import Derived.OwnWalk
import Derived.Laws.BytesArg
import Derived.Laws.MakeOwn
import Derived.Laws.OwnMore
import Derived.Deep.OwnRows
import Derived.Tactics
import Derived.Lib.ConvBytes
import Derived.Laws.Slices
import Derived.WalkKit
import Derived.KernelRfl
import Derived.RowKit3
import Derived.Deep.LoopGhost
import Derived.Deep.QuietTactic
import Derived.BigQuiet
import Derived.WideLaws
import Derived.Deep.DeepCutAuto
import Derived.Deep.CutBlock
import Derived.Deep.RegionHeld3
import Derived.Laws.Rows
import Derived.Lib.AppendStr
import Derived.ArgAppend
import Derived.Laws.IdiomCopy
import Derived.OrdersHeld
import Derived.Laws.BitsLemmas
import Derived.RowKit
import Derived.Test.YtcpiccgnaecdkaaWWords
import Derived.Test.YtcpiccgnaecdkaaWLast
import Derived.Test.YtcpiccgnaecdkaaWTab
import Derived.Test.YtcpiccgnaecdkaaWFour
import Derived.Test.YtcpiccgnaecdkaaWQPut
import Derived.Test.YtcpiccgnaecdkaaWApart
import Derived.Test.YtcpiccgnaecdkaaWArr
import Derived.Test.YtcpiccgnaecdkaaWZeros
import Derived.Test.YtcpiccgnaecdkaaWFoot
import Derived.Test.YtcpiccgnaecdkaaWKept
import Derived.Test.YtcpiccgnaecdkaaWShare
import Derived.Test.YtcpiccgnaecdkaaWN
import Derived.Test.YtcpiccgnaecdkaaWFootNe
import Derived.Test.YtcpiccgnaecdkaaWAt
import Derived.Test.YtcpiccgnaecdkaaWEqStruct
import Derived.Test.YtcpiccgnaecdkaaWRepsOne
import Derived.Test.YtcpiccgnaecdkaaWInv
import Derived.Test.YtcpiccgnaecdkaaWInvWords
import Derived.Test.YtcpiccgnaecdkaaWGuard
import Derived.Test.YtcpiccgnaecdkaaWNEv
import Derived.Test.YtcpiccgnaecdkaaWMore
import Derived.DeepKeys4
import Derived.Maps.Own
import Derived.Maps.OwnOps
import Derived.Maps.Views
namespace Go.Proofs.Ytcpiccgnaecdkaa.QJudgeClashes
open Go.RowKit Go.Proofs.YtcpiccgnaecdkaaW.PrintWords Go.Proofs.YtcpiccgnaecdkaaW.PrintLast Go.Proofs.YtcpiccgnaecdkaaW.PrintMore
attribute [local go_sem] max2_int min2_int max_two min_two max_three min_three max_four min_four   -- for this text's walks alone
set_option linter.unusedVariables false
set_option linter.unusedSimpArgs false

def errW : Option Int → Value
 | none => .nilIface
 | some c => .iface 0 (.int .i64 c)
theorem errW_none : errW none = .nilIface := rfl
theorem errW_some (c : Int) : errW (some c) = .iface 0 (.int .i64 c) := rfl

theorem info27 : (Try.prog.info? 27).map (fun i => (i.zero, i.size, i.bytes)) = some (some (.agg #[(.int .i64 0), (.int .i64 0), (.int .i64 0), (.int .i64 0), (.slice none 0 0)]), 5, 56) := by kernel_rfl
-- the values' own types
def rd_L1 (xs : List (List Int)) (i : Int) : (List Int) := xs.getD i.toNat ([] : List Int)
theorem at_L1 {w : World} {A : Option Addr} {n : Nat} {xs : List (List Int)} (h : Kd.C (Kd.slice 3 (Kd.int .i64)) w A n xs) (i : Int) (h0 : 0 ≤ i) (h1 : i < n) : ∃ ad A0 c0, A = some ad ∧ w.cell? (ad.add i.toNat) = some (.slice A0 (rd_L1 xs i).length c0) ∧ (rd_L1 xs i).length ≤ c0 ∧ (Kd.int .i64).C w A0 (rd_L1 xs i).length (rd_L1 xs i) := by
 obtain ⟨ad, c, e, _, hK, hc0⟩ := Kd.C_get h ([] : List Int) i h0 h1
 have hc : ∀ j u, c[j]? = some u → w.cell? (ad.add (i.toNat * 1 + j)) = some u := hc0
 obtain ⟨A0, c0, rfl, l0, g0⟩ := hK
 exact ⟨ad, A0, c0, e, by have hq := hc 0 _ rfl; rwa [Nat.mul_one, Nat.add_zero] at hq, l0, g0⟩

/-! #### struct type 27 -/
structure S27 where
 f0 : Int
 f1 : Int
 f2 : Int
 f3 : Int
 f4 : (List Int)
def z27 : S27 := ⟨(0 : Int), (0 : Int), (0 : Int), (0 : Int), ([] : List Int)⟩
def k27 : Kd S27 := Kd.iso (Kd.pair (Kd.int .i64) (Kd.pair (Kd.int .i64) (Kd.pair (Kd.int .i64) (Kd.pair (Kd.int .i64) (Kd.slice 3 (Kd.int .i64)))))) (fun x : S27 => (x.f0, x.f1, x.f2, x.f3, x.f4))
theorem k27_open {w : World} {x : S27} {cs : List Value} (h : k27.K w x cs) : ∃ A4 c4, cs = [.int .i64 x.f0, .int .i64 x.f1, .int .i64 x.f2, .int .i64 x.f3, .slice A4 x.f4.length c4] ∧ x.f4.length ≤ c4 ∧ (Kd.int .i64).C w A4 x.f4.length x.f4 := by
 obtain ⟨_, _, rfl, rfl, ⟨_, _, rfl, rfl, ⟨_, _, rfl, rfl, ⟨_, _, rfl, rfl, ⟨A4, c4, rfl, l4, g4⟩⟩⟩⟩⟩ := h
 exact ⟨A4, c4, rfl, l4, g4⟩
theorem k27_openM {w : World} {base : Nat} {ok : Nat → Prop} {x : S27} {cs : List Value} (h : k27.M w base ok x cs) : ∃ v4, cs = [.int .i64 x.f0, .int .i64 x.f1, .int .i64 x.f2, .int .i64 x.f3, v4] ∧ (Kd.int .i64).R 3 w base ok v4 x.f4 := by
 obtain ⟨_, _, rfl, rfl, ⟨_, _, rfl, rfl, ⟨_, _, rfl, rfl, ⟨_, _, rfl, rfl, ⟨v4, rfl, g4⟩⟩⟩⟩⟩ := h
 exact ⟨v4, rfl, g4⟩
theorem k27_mk (w : World) (x : S27) {A4 : Option Addr} {c4 : Nat} (l4 : x.f4.length ≤ c4) (g4 : (Kd.int .i64).C w A4 x.f4.length x.f4) : k27.K w x [.int .i64 x.f0, .int .i64 x.f1, .int .i64 x.f2, .int .i64 x.f3, .slice A4 x.f4.length c4] := ⟨[.int .i64 x.f0], [.int .i64 x.f1, .int .i64 x.f2, .int .i64 x.f3, .slice A4 x.f4.length c4], rfl, rfl, ⟨[.int .i64 x.f1], [.int .i64 x.f2, .int .i64 x.f3, .slice A4 x.f4.length c4], rfl, rfl, ⟨[.int .i64 x.f2], [.int .i64 x.f3, .slice A4 x.f4.length c4], rfl, rfl, ⟨[.int .i64 x.f3], [.slice A4 x.f4.length c4], rfl, rfl, ⟨A4, c4, rfl, l4, g4⟩⟩⟩⟩⟩
theorem k27_mkM (w : World) (base : Nat) (ok : Nat → Prop) (x : S27) {v4 : Value} (g4 : (Kd.int .i64).R 3 w base ok v4 x.f4) : k27.M w base ok x [.int .i64 x.f0, .int .i64 x.f1, .int .i64 x.f2, .int .i64 x.f3, v4] := ⟨[.int .i64 x.f0], [.int .i64 x.f1, .int .i64 x.f2, .int .i64 x.f3, v4], rfl, rfl, ⟨[.int .i64 x.f1], [.int .i64 x.f2, .int .i64 x.f3, v4], rfl, rfl, ⟨[.int .i64 x.f2], [.int .i64 x.f3, v4], rfl, rfl, ⟨[.int .i64 x.f3], [v4], rfl, rfl, ⟨v4, rfl, g4⟩⟩⟩⟩⟩
def rd_T27 (xs : List S27) (i : Int) : S27 := xs.getD i.toNat z27
theorem at_T27 {w : World} {A : Option Addr} {n : Nat} {xs : List S27} (h : Kd.C k27 w A n xs) (i : Int) (h0 : 0 ≤ i) (h1 : i < n) : ∃ ad A4 c4, A = some ad ∧ w.cell? (ad.add (i.toNat * 5)) = some (.int .i64 (rd_T27 xs i).f0) ∧ w.cell? ⟨(ad.add (i.toNat * 5)).block, (ad.add (i.toNat * 5)).off + 1, none⟩ = some (.int .i64 (rd_T27 xs i).f1) ∧ w.cell? ⟨(ad.add (i.toNat * 5)).block, (ad.add (i.toNat * 5)).off + 2, none⟩ = some (.int .i64 (rd_T27 xs i).f2) ∧ w.cell? ⟨(ad.add (i.toNat * 5)).block, (ad.add (i.toNat * 5)).off + 3, none⟩ = some (.int .i64 (rd_T27 xs i).f3) ∧ w.cell? ⟨(ad.add (i.toNat * 5)).block, (ad.add (i.toNat * 5)).off + 4, none⟩ = some (.slice A4 (rd_T27 xs i).f4.length c4) ∧ (rd_T27 xs i).f4.length ≤ c4 ∧ (Kd.int .i64).C w A4 (rd_T27 xs i).f4.length (rd_T27 xs i).f4 := by
 obtain ⟨ad, c, e, _, hK, hc0⟩ := Kd.C_get h z27 i h0 h1
 have hc : ∀ j u, c[j]? = some u → w.cell? (ad.add (i.toNat * 5 + j)) = some u := hc0
 obtain ⟨A4, c4, rfl, l4, g4⟩ := k27_open hK
 exact ⟨ad, A4, c4, e, hc 0 _ rfl, by rw [← add_field _ _ 1 (by omega)]; exact hc 1 _ rfl, by rw [← add_field _ _ 2 (by omega)]; exact hc 2 _ rfl, by rw [← add_field _ _ 3 (by omega)]; exact hc 3 _ rfl, by rw [← add_field _ _ 4 (by omega)]; exact hc 4 _ rfl, l4, g4⟩
/-! ### judge_Twice: function 10 -/
/-! A set of triples that the call keeps in a map. -/
open Go.Maps in
theorem law38 : Keyed Try.prog 38 := Keyed.of_law (deep_law_laid (by kernel_rfl) (m := 3) (by omega) (k := 38) (of_decide_eq_true (by kernel_rfl)) (by kernel_rfl) (by kernel_rfl))
def kv (t : Int × Int × Int) : Value := .agg #[.int .i64 t.1, .int .i64 t.2.1, .int .i64 t.2.2]
def wfT (t : Int × Int × Int) : Prop := (Lit.int .i64 t.1).wf = true ∧ (Lit.int .i64 t.2.1).wf = true ∧ (Lit.int .i64 t.2.2).wf = true
theorem keyLits38 (d : Nat) (t : Int × Int × Int) (h : wfT t) : Try.prog.keyLits (d + 2) 38 [.int .i64 t.1, .int .i64 t.2.1, .int .i64 t.2.2] = some [.int .i64 t.1, .int .i64 t.2.1, .int .i64 t.2.2] := by
 obtain ⟨h1, h2, h3⟩ := h
 have hc : Try.prog.cellsOf 38 = 3 := by kernel_rfl
 have hc3 : Try.prog.cellsOf 3 = 1 := by kernel_rfl
 simp [Program.keyLits, Try.underlying38, Try.underlying3, hc, hc3, h1, h2, h3]
theorem key38 (t : Int × Int × Int) (h : wfT t) : ∃ kl, keyOf Try.prog 38 (kv t) = some kl := by
 have hk : Try.prog.keyType 38 = true := by kernel_rfl
 have hf : (kv t).formed Try.prog 38 = true := by
  have hc : Try.prog.cellsOf 38 = 3 := by kernel_rfl
  simp [kv, Value.formed, Try.underlying38, hc]
 obtain ⟨d, hd⟩ : ∃ d, Try.prog.types.size + 1 = d + 2 := ⟨Try.prog.types.size - 1, by have : 1 ≤ Try.prog.types.size := of_decide_eq_true (by kernel_rfl); omega⟩
 refine ⟨.string (keyBytes [.int .i64 t.1, .int .i64 t.2.1, .int .i64 t.2.2]), ?_⟩
 unfold keyOf
 rw [Try.underlying38]
 simp only [hk, hf, Bool.and_self, if_true, hd]
 rw [show (kv t).cells.toList = [.int .i64 t.1, .int .i64 t.2.1, .int .i64 t.2.2] from rfl, keyLits38 d t h]
 rfl
/-- Block b of w is a map of at most n entries that holds just the triples of S. -/
def HasSet (w : World) (b n : Nat) (S : List (Int × Int × Int)) : Prop :=
 ∃ D : DataW Unit, w.ownsMap Try.prog 38 (plainElem Try.prog 4) b n D ∧ Maps.IsMap D ∧ ∀ t kl, keyOf Try.prog 38 (kv t) = some kl → D.atKey kl (.lit (.bool false)) = .lit (.bool (S.contains t))
theorem HasSet.made (w : World) : HasSet (w.alloc (.map #[] 0)) w.heap.size 0 [] :=
 ⟨.map [], World.ownsMap_made _ _ _ _, Maps.isMap_empty, fun t kl _ => rfl⟩
theorem HasSet.alloc {w : World} {b n : Nat} {S : List (Int × Int × Int)} (h : HasSet w b n S) (o : Obj) : HasSet (w.alloc o) b n S := by
 obtain ⟨D, h1, h2⟩ := h
 exact ⟨D, h1.alloc o, h2⟩
theorem HasSet.drew {w : World} {b n : Nat} {S : List (Int × Int × Int)} (h : HasSet w b n S) : HasSet w.drew b n S := h
theorem HasSet.mono {w : World} {b n m : Nat} {S : List (Int × Int × Int)} (h : HasSet w b n S) (hm : n ≤ m) : HasSet w b m S := by
 obtain ⟨D, h1, h2⟩ := h
 exact ⟨D, h1.mono hm, h2⟩
theorem zero4 (w : World) : (zeroValue 4).run Try.prog w = .ok (.bool false) w := by kernel_rfl
theorem plainElem_bool_inv {H : Type} {v : Value} {z : DataW H × List MemPlace} (h : plainElem Try.prog 4 v = some z) : ∃ x, v = .bool x ∧ z = (.lit (.bool x), []) := by
 unfold plainElem at h
 rw [Try.underlying4] at h
 cases v <;> simp at h
 exact ⟨_, rfl, h.symm⟩
/-- A look-up in the set. -/
theorem lookup_set (w : World) {ops : Array Oper} {rest : List Oper} {o : Oper} {a : Act} {Q : Exit → Act → World → Prop}
  (hg : o.guard = none) (m x : Operand) (hop : o.op = Op.lookup 36 m x false) (b n : Nat) (S : List (Int × Int × Int)) (hm : a.eval m = .map (some b)) (hS : HasSet w b n S) (t : Int × Int × Int) (ht : wfT t) (hx : a.eval x = kv t) (v : Bool) (hv : S.contains t = v)
  (hK : wpList Try.prog ops Q rest (a.put o.dst (.bool v)) w) : wpList Try.prog ops Q (o :: rest) a w := by
 obtain ⟨D, h1, _, h3⟩ := hS
 obtain ⟨kl, hkey⟩ := key38 t ht
 obtain ⟨v', ps, hrun, hv'⟩ := h1.lookup law38 Try.underlying36 (zero4 w) (plainElem_bool Try.underlying4 false) hkey
 obtain ⟨c, rfl, hc⟩ := plainElem_bool_inv hv'
 have h4 := h3 t kl hkey
 simp only [Prod.mk.injEq] at hc
 rw [h4] at hc
 have h5 : S.contains t = c := by injection hc.1 with h6; injection h6
 refine wpList_plain hg fun K' hK' => ?_
 unfold Oper.wp
 simp [execOp, hop, hm, hx, hrun, Result.andThen]
 exact hK' _ _ (hv.symm.trans h5 ▸ hK)
/-- A store into the set. -/
theorem store_set (w : World) {ops : Array Oper} {rest : List Oper} {o : Oper} {a : Act} {Q : Exit → Act → World → Prop}
  (hg : o.guard = none) (m x v : Operand) (hop : o.op = Op.mapUpdate 36 m x v) (b n : Nat) (S : List (Int × Int × Int)) (hm : a.eval m = .map (some b)) (hS : HasSet w b n S) (hn : n < maxLen) (t : Int × Int × Int) (ht : wfT t) (hx : a.eval x = kv t) (hv : a.eval v = .bool true)
  (hK : ∀ w', HasSet w' b (n + 1) (t :: S) → w.grownBy w' (some b) → wpList Try.prog ops Q rest (a.put o.dst undef) w') : wpList Try.prog ops Q (o :: rest) a w := by
 obtain ⟨D, h1, h2, h3⟩ := hS
 obtain ⟨kl, hkey⟩ := key38 t ht
 refine wpList_mapUpdate_own w hg m x v 36 hop 38 4 law38 Try.underlying36 (plainElem Try.prog 4) b n D hm h1 hn (kv t) (.bool true) kl hx hv hkey _ [] (plainElem_bool Try.underlying4 true) (fun w' k1 k2 => hK w' ⟨_, k1, ?_, fun s ks hs => ?_⟩ k2)
 ·obtain ⟨es, rfl⟩ := h2
  exact ⟨_, rfl⟩
 ·by_cases e : s = t
  ·subst e
   have : ks = kl := Option.some.inj (hs.symm.trans hkey)
   subst this
   rw [Maps.atKey_put_same h2 (law38.key hkey)]
   simp
  ·have hne : ks ≠ kl := fun e2 => e (by
    have := law38.inj hs (e2 ▸ hkey)
    simp only [kv, Value.agg.injEq, Array.mk.injEq, List.cons.injEq, Value.int.injEq, true_and, and_true] at this
    exact Prod.ext this.1 (Prod.ext this.2.1 this.2.2))
   rw [Maps.atKey_put_other hne, h3 s ks hs]
   have e2 : (s == t) = false := beq_eq_false_iff_ne.mpr e
   rw [List.contains_cons, e2, Bool.false_or]
/-! What was done twice. -/
def tr (e : S27) : Int × Int × Int := (e.f0, e.f1, e.f3)
def wfE (e : S27) : Prop := wfT (tr e)
instance (e : S27) : Decidable (wfE e) := by unfold wfE wfT; infer_instance
def twiceFrom (S : List (Int × Int × Int)) (i : Int) : List S27 → Int
 | [] => -1
 | e :: l => if e.f0 ≠ 1 ∧ e.f0 ≠ 3 then twiceFrom S (i + 1) l else if S.contains (tr e) = true then i else twiceFrom (tr e :: S) (i + 1) l
def judge_Twice.f (l0 : List S27) : Option Int := if ∀ e ∈ l0, wfE e then some (twiceFrom [] 0 l0) else none
theorem drop_at (l : List S27) (k : Nat) (h : k < l.length) : l.drop k = rd_T27 l (k : Int) :: l.drop (k + 1) := by
 unfold rd_T27
 rw [List.getD_eq_getElem?_getD, Int.toNat_natCast, List.getElem?_eq_getElem h]
 exact List.drop_eq_getElem_cons h
theorem rd_mem (l : List S27) (k : Nat) (h : k < l.length) : rd_T27 l (k : Int) ∈ l := by
 unfold rd_T27
 rw [List.getD_eq_getElem?_getD, Int.toNat_natCast, List.getElem?_eq_getElem h]
 exact List.getElem_mem h
def TwRel (l : List S27) (r : Int) (b : Nat) (w0 : World) (i : Value) (wr : World) : Prop :=
 ∃ (k : Nat) (S : List (Int × Int × Int)), k ≤ l.length ∧ i = .int .i64 k ∧ HasSet wr b k S ∧ Below w0.heap.size w0 wr ∧ b < wr.heap.size ∧ twiceFrom S k (l.drop k) = r
set_option maxRecDepth 100000 in
set_option maxHeartbeats 2000000 in
theorem twice_walk (A0 : Option Addr) (c0 : Nat) (l0 : List S27) (w : World) (hr0 : Kd.C k27 w A0 l0.length l0) (hw : ∀ e ∈ l0, wfE e) :
  Calls Try.prog 10 #[.slice A0 l0.length c0] w fun e w' => e = .returned (.int .i64 (twiceFrom [] 0 l0)) ∧ Below w.heap.size w w' := by
 have hmm := @run_makeMap Try.prog
 have hlen := hr0.2.1
 have HR := Aside0.mk hr0
 clear hr0
 have HW := Aside0.mk hw
 clear hw
 go_enter Try.func10, Try.ntmps10
 go_wp2
 go_loopw [10] (fun i wr => TwRel l0 (twiceFrom [] 0 l0) w.heap.size w i wr) (fun i _ => l0.length - (intOf i).toNat)
 case atStart => exact ⟨0, [], Nat.zero_le _, rfl, HasSet.made w, (Below.refl _ _).alloc (Nat.le_refl _) _, by simp, rfl⟩
 case round =>
  obtain ⟨k, S, hk, rfl, hS, hB, hb, hr⟩ := hrel
  have HS := Aside0.mk hS
  have HB := Aside0.mk hB
  have HRR := Aside0.mk hr
  clear hS hB hr
  by_cases hlt : k < l0.length
  rotate_left
  ·obtain rfl : k = l0.length := by omega
   have hres : twiceFrom [] 0 l0 = -1 := by
    rw [← HRR.out, List.drop_length]
    rfl
   have HRES := Aside0.mk hres
   clear hres
   go_wp2
   go_ret
   exact ⟨by rw [HRES.out]; rfl, HB.out⟩
  obtain ⟨ad, A4, c4, hA, h0, h1, h2, h3, h4, h5, h6⟩ := at_T27 HR.out (k : Int) (by omega) (by omega)
  have HE := Aside0.mk (HW.out _ (rd_mem l0 k hlt))
  have hd := drop_at l0 k hlt
  obtain ⟨e, he⟩ : ∃ e, rd_T27 l0 (k : Int) = e := ⟨_, rfl⟩
  rw [he] at h0 h1 h2 h3 h4 hd HE
  rw [Int.toNat_natCast] at h0 h1 h2 h3 h4
  subst hA
  replace h0 := (HB.out.cell (World.block_lt_of_cell? w _ h0)).trans h0
  replace h1 := (HB.out.cell (World.block_lt_of_cell? w _ h1)).trans h1
  replace h2 := (HB.out.cell (World.block_lt_of_cell? w _ h2)).trans h2
  replace h3 := (HB.out.cell (World.block_lt_of_cell? w _ h3)).trans h3
  replace h4 := (HB.out.cell (World.block_lt_of_cell? w _ h4)).trans h4
  have HD := Aside0.mk hd
  clear hd h5 h6 he
  have hbb : w.heap.size < wr.heap.size := hb
  have put : ∀ S', S' = S ∨ S' = tr e :: S → twiceFrom S' ((k + 1 : Nat) : Int) (l0.drop (k + 1)) = twiceFrom [] 0 l0 → ∀ w2, HasSet w2 w.heap.size (k + 1) S' → Below w.heap.size w w2 → w.heap.size < w2.heap.size → TwRel l0 (twiceFrom [] 0 l0) w.heap.size w (.int .i64 ((k : Int) + 1)) w2 :=
   fun S' _ h w2 hs2 hb2 hl2 => ⟨k + 1, S', by omega, by go_num, hs2, hb2, hl2, h⟩
  have PUT := Aside0.mk put
  clear put
  by_cases hk1 : e.f0 = 1 ∨ e.f0 = 3
  rotate_left
  ·-- something else
   have b1 : (e.f0 != 1) = true := bne_iff_ne.mpr (by omega)
   have b3 : (e.f0 != 3) = true := bne_iff_ne.mpr (by omega)
   have hres : twiceFrom S ((k + 1 : Nat) : Int) (l0.drop (k + 1)) = twiceFrom [] 0 l0 := by
    rw [← HRR.out, HD.out]
    simp only [twiceFrom]
    rw [if_pos (by omega)]
    rfl
   have HRES := Aside0.mk hres
   clear hres hk1
   go_wp2
   go_roundw
   case rel => exact PUT.out _ (.inl rfl) HRES.out _ (((HS.out.alloc _).alloc _).mono (Nat.le_succ _)) ((HB.out.alloc (by omega) _).alloc (by simp; omega) _) (by simp; omega)
   case measure => simp [intOf]; omega
  -- a vote, or a win
  have hnk : ¬ (e.f0 ≠ 1 ∧ e.f0 ≠ 3) := by omega
  by_cases hc : S.contains (tr e) = true
  ·have hres : twiceFrom [] 0 l0 = (k : Int) := by
    rw [← HRR.out, HD.out]
    simp only [twiceFrom]
    rw [if_neg hnk, if_pos hc]
   have HRES := Aside0.mk hres
   have HC := Aside0.mk hc
   clear hres hnk hc
   rcases hk1 with hk1 | hk1
   ·have b1 : (e.f0 != 1) = false := bne_eq_false_iff_eq.mpr hk1
    have b2 : (e.f0 == 1) = true := beq_iff_eq.mpr hk1
    clear hk1
    go_wp2_with (first | (at_lookup; refine lookup_set _ rfl _ _ rfl w.heap.size k S rfl ((HS.out.alloc _).alloc _) (tr e) HE.out rfl true HC.out ?_))
    go_ret
    exact ⟨by rw [HRES.out]; rfl, (HB.out.alloc (by omega) _).alloc (by simp; omega) _⟩
   ·have b1 : (e.f0 != 1) = true := bne_iff_ne.mpr (by omega)
    have b3 : (e.f0 != 3) = false := bne_eq_false_iff_eq.mpr hk1
    clear hk1
    go_wp2_with (first | (at_lookup; refine lookup_set _ rfl _ _ rfl w.heap.size k S rfl ((HS.out.alloc _).alloc _) (tr e) HE.out rfl true HC.out ?_))
    go_ret
    exact ⟨by rw [HRES.out]; rfl, (HB.out.alloc (by omega) _).alloc (by simp; omega) _⟩
  replace hc : S.contains (tr e) = false := by simpa using hc
  have hres : twiceFrom (tr e :: S) ((k + 1 : Nat) : Int) (l0.drop (k + 1)) = twiceFrom [] 0 l0 := by
   rw [← HRR.out, HD.out]
   simp only [twiceFrom]
   rw [if_neg hnk, if_neg (by rw [hc]; decide)]
   rfl
  have HRES := Aside0.mk hres
  have HC := Aside0.mk hc
  clear hres hnk hc
  rcases hk1 with hk1 | hk1
  ·have b1 : (e.f0 != 1) = false := bne_eq_false_iff_eq.mpr hk1
   clear hk1
   go_wp2_with (first | (at_lookup; refine lookup_set _ rfl _ _ rfl w.heap.size k S rfl ((HS.out.alloc _).alloc _) (tr e) HE.out rfl false HC.out ?_) | (at_mapUpdate; refine store_set _ rfl _ _ _ rfl w.heap.size k S rfl ((HS.out.alloc _).alloc _) (by unfold maxLen; omega) (tr e) HE.out rfl rfl ?_; intro w1 hS1 hg1; have G1 := Aside0.mk hg1; have S1 := Aside0.mk hS1; clear hg1 hS1))
   go_roundw
   case rel => exact PUT.out _ (.inr rfl) HRES.out _ S1.out (((HB.out.alloc (by omega) _).alloc (by simp; omega) _).grown G1.out (by simp; omega) (fun j hj => by cases hj; exact Nat.le_refl _)) (by have := G1.out.size; simp at this; omega)
   case measure => simp [intOf]; omega
  ·have b1 : (e.f0 != 1) = true := bne_iff_ne.mpr (by omega)
   have b3 : (e.f0 != 3) = false := bne_eq_false_iff_eq.mpr hk1
   clear hk1
   go_wp2_with (first | (at_lookup; refine lookup_set _ rfl _ _ rfl w.heap.size k S rfl ((HS.out.alloc _).alloc _) (tr e) HE.out rfl false HC.out ?_) | (at_mapUpdate; refine store_set _ rfl _ _ _ rfl w.heap.size k S rfl ((HS.out.alloc _).alloc _) (by unfold maxLen; omega) (tr e) HE.out rfl rfl ?_; intro w1 hS1 hg1; have G1 := Aside0.mk hg1; have S1 := Aside0.mk hS1; clear hg1 hS1))
   go_roundw
   case rel => exact PUT.out _ (.inr rfl) HRES.out _ S1.out (((HB.out.alloc (by omega) _).alloc (by simp; omega) _).grown G1.out (by simp; omega) (fun j hj => by cases hj; exact Nat.le_refl _)) (by have := G1.out.size; simp at this; omega)
   case measure => simp [intOf]; omega
theorem judge_Twice.calls (A0 : Option Addr) (c0 : Nat) (l0 : List S27) (r : Int) (w : World) (hr0 : Kd.C k27 w A0 l0.length l0) (hc0 : l0.length ≤ c0) (h : judge_Twice.f l0 = some r) :
  Calls Try.prog 10 #[.slice A0 l0.length c0] w fun e w' => e = .returned (.int .i64 r) ∧ Below w.heap.size w w' := by
 unfold judge_Twice.f at h
 split at h
 ·obtain rfl := Option.some.inj h
  exact twice_walk A0 c0 l0 w hr0 (by assumption)
 ·cases h

-- NOT PRINTED: function 24 (claims_Table_24)

-- NOT PRINTED: function 22 (claims_Table_22)

-- NOT PRINTED: function 14 (judge_Agreed)

-- NOT PRINTED: function 15 (judge_Claimants)
/-! ### grapevinelaw21_anchor: function 8 -/
/-! Rows of noughts: tables that nobody has claimed. -/
def z64 : List Value := List.replicate 64 (.int .i64 0)
def z128 : List Value := List.replicate 128 (.int .i64 0)
theorem z64_at (j : Nat) (v : Value) (h : z64[j]? = some v) : j < 64 ∧ v = .int .i64 0 := by
 unfold z64 at h
 rw [List.getElem?_replicate] at h
 split at h
 ·exact ⟨by assumption, (Option.some.inj h).symm⟩
 ·cases h
theorem z128_at (j : Nat) (v : Value) (h : z128[j]? = some v) : j < 128 ∧ v = .int .i64 0 := by
 unfold z128 at h
 rw [List.getElem?_replicate] at h
 split at h
 ·exact ⟨by assumption, (Option.some.inj h).symm⟩
 ·cases h
theorem z128_get (j : Nat) (h : j < 128) : z128.toArray[j]? = some (.int .i64 0) := by
 rw [List.getElem?_toArray]
 unfold z128
 rw [List.getElem?_replicate, if_pos h]
theorem neq64 (w : World) : (binOp .neq 44 (.agg z64.toArray) (.agg z64.toArray)).run Try.prog w = .ok (.bool false) w := by kernel_rfl
def zeros (n : Nat) : Array Value := Array.replicate n (.int .i64 0)
theorem make2 (w : World) : (Instr.makeSlice 34 (.int .i64 2) (.int .i64 2)).run Try.prog w = .ok (.slice (some ⟨w.heap.size, 0, none⟩) 2 2) (w.alloc (.cells (zeros 256) 46)) := by kernel_rfl
theorem make1 (w : World) : (Instr.makeSlice 34 (.int .i64 1) (.int .i64 1)).run Try.prog w = .ok (.slice (some ⟨w.heap.size, 0, none⟩) 1 1) (w.alloc (.cells (zeros 128) 46)) := by kernel_rfl
theorem zeros_cell {w : World} {g n t : Nat} (h : w.heap[g]? = some (.cells (zeros n) t (0, 0))) (j : Nat) (hj : j < n) : w.cell? ⟨g, j, none⟩ = some (.int .i64 0) := by
 rw [blk_cell h j]
 unfold zeros
 rw [Array.getElem?_replicate, if_pos hj]
/-- Cells that lie one behind the other are loaded as one value. -/
theorem run_load_list {P : Program} (w : World) (A : Addr) (ty : TypeId) (vs : List Value) (d : TypeDesc) (hc : ∀ j v, vs[j]? = some v → w.cell? (A.add j) = some v)
  (hu : P.underlying ty = some d) (hd : (match d with | .struct _ | .array _ _ => true | _ => false) = true) (hi : (P.info? ty).map (·.size) = some vs.length) : (loadVar ty A).run P w = .ok (.agg vs.toArray) w := by
 have hl : (loadCells A vs.length).run P w = .ok vs.toArray w := run_loadCells_list (P := P) w A vs hc
 cases hq : P.info? ty with
 | none => simp [hq] at hi
 | some i =>
  have hs : i.size = vs.length := by simpa [hq] using hi
  have hagg : (isAgg ty).run P w = .ok true w := by
   unfold isAgg
   rw [Sem.run_bind, run_underlying hu w]
   cases d <;> simp_all
  simp [loadVar, Sem.run_bind, hagg, sizeOf, typeInfo, hq, hs, hl]
theorem load_list {P : Program} {ops : Array Oper} {rest : List Oper} {o : Oper} {a : Act} {w : World} {Q : Exit → Act → World → Prop} (hgd : o.guard = none) (ty : TypeId) (x : Operand) (ho : o.op = .load ty x)
  (A : Addr) (hx : a.eval x = .pointer (some A)) (vs : List Value) (d : TypeDesc) (hc : ∀ j v, vs[j]? = some v → w.cell? (A.add j) = some v)
  (hu : P.underlying ty = some d) (hd : (match d with | .struct _ | .array _ _ => true | _ => false) = true) (hi : (P.info? ty).map (·.size) = some vs.length)
  (h : wpList P ops Q rest (a.put o.dst (.agg vs.toArray)) w) : wpList P ops Q (o :: rest) a w :=
 wpList_plain hgd fun _ hK => by
  unfold Oper.wp execOp
  simp only [ho, hx, Instr.loadAt, Instr.sureAddr, Sem.run_bind, Sem.run_pure, Result.andThen_ok, run_load_list w A ty vs d hc hu hd hi]
  exact hK _ _ h
theorem quiet_load_list {P : Program} {ops : Array Oper} {C : World → Prop} {Q : Act → Prop} {a : Act} {o : Oper} {rest : List Oper} (hgd : o.guard = none) (ty : TypeId) (x : Operand) (ho : o.op = .load ty x)
  (A : Addr) (hx : a.eval x = .pointer (some A)) (vs : List Value) (d : TypeDesc) (hc : ∀ W, C W → ∀ j v, vs[j]? = some v → W.cell? (A.add j) = some v)
  (hu : P.underlying ty = some d) (hd : (match d with | .struct _ | .array _ _ => true | _ => false) = true) (hi : (P.info? ty).map (·.size) = some vs.length)
  (h : wpQuiet P ops C Q rest (a.put o.dst (.agg vs.toArray))) : wpQuiet P ops C Q (o :: rest) a :=
 wpQuiet_step fun K hK => by
  rw [if_pos (by simp [Region.wanted, hgd])]
  refine ⟨_, fun w hC => ?_, hK _ h⟩
  unfold Oper.quietAt execOp
  simp only [ho, hx, Instr.loadAt, Instr.sureAddr, Sem.run_bind, Sem.run_pure, Result.andThen_ok, run_load_list w A ty vs d (hc w hC) hu hd hi]
  exact ⟨rfl, rfl⟩
theorem add_off (g o j : Nat) : (⟨g, o, none⟩ : Addr).add j = ⟨g, o + j, none⟩ := by unfold Addr.add; split <;> simp_all
set_option maxRecDepth 100000 in
/-- The closure: are a table's owners others than the first one's? -/
theorem unlike (B g : Nat) (w : World) (hB : w.cell? ⟨B, 0, none⟩ = some (.slice (some ⟨g, 0, none⟩) 2 2)) (hg : w.heap[g]? = some (.cells (zeros 256) 46 (0, 0))) :
  Calls Try.prog 23 #[.agg z128.toArray, .pointer (some ⟨B, 0, none⟩)] w fun e w' => e = .returned (.bool false) ∧ Below w.heap.size w w' := by
 have hBl := World.block_lt_of_cell? w _ hB
 have HG := Aside0.mk hg
 clear hg
 go_enter Try.func23, Try.ntmps23
 go_wp2_with fail
 have HN := Aside0.mk (blk_new w (.cells z128.toArray 46))
 have HG2 := Aside0.mk (blk_alloc HG.out (.cells z128.toArray 46))
 have hB2 : (w.alloc (.cells z128.toArray 46)).cell? ⟨B, 0, none⟩ = some (.slice (some ⟨g, 0, none⟩) 2 2) := ((below_alloc (Below.refl w.heap.size w) _).cell hBl).trans hB
 obtain ⟨W, hW⟩ : ∃ W, w.alloc (.cells z128.toArray 46) = W := ⟨_, rfl⟩
 have HBL := Aside0.mk (below_alloc (Below.refl w.heap.size w) (.cells z128.toArray 46))
 rw [hW] at HN HG2 hB2 HBL ⊢
 clear hW hB
 refine wp_region_quiet_lit (by kernel_rfl) (by kernel_rfl) ?_
 quiet_step (fail)
 refine quiet_load_list rfl 44 _ rfl ⟨w.heap.size, 0, none⟩ rfl z64 _ ?_ Try.underlying44 rfl (by kernel_rfl) ?_
 ·rintro _ ⟨n, rfl⟩ j v hv
  obtain ⟨hj, rfl⟩ := z64_at j v hv
  rw [add_off, Nat.zero_add]
  exact (blk_cell HN.out j).trans (z128_get j (by omega))
 quiet_step (fail)
 quiet_step (fail)
 quiet_step (fail)
 refine quiet_load_list rfl 44 _ rfl ⟨g, 0, none⟩ rfl z64 _ ?_ Try.underlying44 rfl (by kernel_rfl) ?_
 ·rintro _ ⟨n, rfl⟩ j v hv
  obtain ⟨hj, rfl⟩ := z64_at j v hv
  rw [add_off, Nat.zero_add]
  exact zeros_cell (w := W.drewN n) HG2.out j (by omega)
 have q := fun w => neq64 w
 quiet_step (fail)
 quiet_step (fail)
 refine wpQuiet_nil ?_
 intro _ hw'
 obtain ⟨nq, hw''⟩ := hw'
 subst hw''
 go_wp2
 go_ret
 exact ⟨rfl, pw_below_drewN HBL.out nq⟩
def fnv (B : Nat) : Value := .func (.func 23) #[] #[.pointer (some ⟨B, 0, none⟩)]
def IxRel (w0 : World) (i : Value) (wr : World) : Prop := ∃ k : Nat, k ≤ 2 ∧ i = .int .i64 k ∧ Below w0.heap.size w0 wr
set_option maxRecDepth 100000 in
set_option maxHeartbeats 1000000 in
theorem index_none (B g : Nat) (w : World) (hB : w.cell? ⟨B, 0, none⟩ = some (.slice (some ⟨g, 0, none⟩) 2 2)) (hg : w.heap[g]? = some (.cells (zeros 256) 46 (0, 0))) :
  Calls Try.prog 24 #[.slice (some ⟨g, 0, none⟩) 2 2, fnv B] w fun e w' => e = .returned (.int .i64 (-1)) ∧ Below w.heap.size w w' := by
 unfold fnv
 have HB0 := Aside0.mk hB
 have HG := Aside0.mk hg
 have hgl := blk_lt hg
 clear hg hB
 go_enter Try.func24, Try.ntmps24
 go_wp2
 go_loopw [8] (fun i wr => IxRel w i wr) (fun i _ => 2 - (intOf i).toNat)
 case atStart => exact ⟨0, by omega, rfl, Below.refl _ _⟩
 case round =>
  obtain ⟨k, hk, rfl, hb⟩ := hrel
  have HB := Aside0.mk hb
  clear hb
  by_cases hlt : k < 2
  rotate_left
  ·go_wp2
   go_ret
   exact ⟨rfl, HB.out⟩
  have HGR := Aside0.mk (blk_below HG.out HB.out)
  have HBR := Aside0.mk (pw_cell_below HB.out HB0.out)
  have hbnd : k * 128 + 128 ≤ 256 := by omega
  go_wp2_with (first | (refine load_list rfl 46 _ rfl ⟨g, k * 128, none⟩ rfl z128 _ ?_ Try.underlying46 rfl (by kernel_rfl) ?_; (intro j v hv; obtain ⟨hj, rfl⟩ := z128_at j v hv; rw [add_off]; exact zeros_cell HGR.out _ (by omega))) | (go_at_call 23; go_loud (refine (unlike B g _ HBR.out HGR.out).mono ?_; rintro e w1 ⟨rfl, hb1⟩; have HB1 := Aside0.mk (below_step HB.out hb1); clear hb1)))
  go_roundw
  case rel => exact ⟨k + 1, by omega, by go_num, HB1.out⟩
  case measure => simp [intOf]; omega
set_option maxRecDepth 100000 in
theorem contains_none (B g : Nat) (w : World) (hB : w.cell? ⟨B, 0, none⟩ = some (.slice (some ⟨g, 0, none⟩) 2 2)) (hg : w.heap[g]? = some (.cells (zeros 256) 46 (0, 0))) :
  Calls Try.prog 22 #[.slice (some ⟨g, 0, none⟩) 2 2, fnv B] w fun e w' => e = .returned (.bool false) ∧ Below w.heap.size w w' := by
 have HB0 := Aside0.mk hB
 have HG := Aside0.mk hg
 clear hg hB
 go_enter Try.func22, Try.ntmps22
 go_wp2_with (go_at_call 24; go_loud (refine (index_none B g _ HB0.out HG.out).mono ?_; rintro e w1 ⟨rfl, hb1⟩; have HB1 := Aside0.mk hb1; clear hb1))
 go_ret
 exact ⟨rfl, HB1.out⟩
set_option maxRecDepth 100000 in
theorem agreed_zero (g : Nat) (w : World) (hg : w.heap[g]? = some (.cells (zeros 256) 46 (0, 0))) :
  Calls Try.prog 14 #[.slice (some ⟨g, 0, none⟩) 2 2] w fun e w' => e = .returned (.bool true) ∧ Below w.heap.size w w' := by
 have hmf : ∀ (fn : Fn) (first cap : Array Value) (w : World), (Instr.makeFunc fn first cap).run Try.prog w = .ok (.func fn first cap) w := fun _ _ _ _ => rfl
 have HG := Aside0.mk hg
 clear hg
 go_enter Try.func14, Try.ntmps14
 go_wp2_with (go_at_call 22; go_loud (refine (contains_none w.heap.size g _ (by simp) (blk_alloc HG.out _)).mono ?_; rintro e w1 ⟨rfl, hb1⟩; have HB1 := Aside0.mk (below_step (below_alloc (Below.refl _ w) _) hb1); clear hb1))
 go_ret
 exact ⟨rfl, HB1.out⟩
set_option maxRecDepth 100000 in
set_option maxHeartbeats 1000000 in
theorem claimants_zero (g b : Nat) (w : World) (hg : w.heap[g]? = some (.cells (zeros 128) 46 (0, 0))) (hb : w.cell? ⟨b, 0, none⟩ = some (.int .i64 1)) :
  Calls Try.prog 15 #[.slice (some ⟨b, 0, none⟩) 1 1, .slice (some ⟨g, 0, none⟩) 1 1, .int .i64 0] w fun e w' => e = .returned (.slice none 0 0) ∧ Below w.heap.size w w' := by
 have h0 := zeros_cell hg 0 (by omega)
 go_enter Try.func15, Try.ntmps15
 go_wp2
 go_loopw [7, 14] (fun v i wr => v = .slice none 0 0 ∧ IxRel w i wr) (fun _ i _ => 2 - (intOf i).toNat)
 case atStart => exact ⟨rfl, 0, by omega, rfl, Below.refl _ _⟩
 case round =>
  obtain ⟨rfl, k, hk, rfl, hbw⟩ := hrel
  by_cases hlt : k < 1
  rotate_left
  ·go_wp2
   go_ret
   exact ⟨rfl, hbw⟩
  obtain rfl : k = 0 := by omega
  have h1 := pw_cell_below hbw h0
  have h2 := pw_cell_below hbw hb
  have HB := Aside0.mk hbw
  clear hbw h0 hb
  go_wp2
  go_quiet (fail)
  go_wp2
  go_roundw
  case rel => exact ⟨rfl, 1, by omega, rfl, pw_below_drewN HB.out nq⟩
  case measure => simp [intOf]
/-! The anchor's own two events. -/
def ev1 : S27 := ⟨1, 5, 7, 3, []⟩
def ev2 : S27 := ⟨1, 5, 8, 3, []⟩
abbrev evCells : Array Value := #[.int .i64 1, .int .i64 5, .int .i64 7, .int .i64 3, .slice none 0 0, .int .i64 1, .int .i64 5, .int .i64 8, .int .i64 3, .slice none 0 0]
theorem nil_row (w : World) : (Kd.int .i64).C w none 0 [] := ⟨rfl, by omega, fun h => absurd h (by omega)⟩
theorem ev_row {w : World} {g : Nat} (h : w.heap[g]? = some (.cells evCells 27 (0, 0))) (l : List S27) (hl : l = [ev1, ev2] ∨ l = [ev1]) : Kd.C k27 w (some ⟨g, 0, none⟩) l.length l := by
 have c : ∀ j v, evCells[j]? = some v → w.cell? ⟨g, j, none⟩ = some v := fun j v hv => (blk_cell h j).trans hv
 have K1 : k27.K w ev1 [.int .i64 1, .int .i64 5, .int .i64 7, .int .i64 3, .slice none 0 0] := k27_mk w ev1 (c4 := 0) (by simp [ev1]) (nil_row w)
 have K2 : k27.K w ev2 [.int .i64 1, .int .i64 5, .int .i64 8, .int .i64 3, .slice none 0 0] := k27_mk w ev2 (c4 := 0) (by simp [ev2]) (nil_row w)
 have f1 : ∀ i u, ([.int .i64 1, .int .i64 5, .int .i64 7, .int .i64 3, .slice none 0 0] : List Value)[i]? = some u → w.cell? ((⟨g, 0, none⟩ : Addr).add (0 * 5 + i)) = some u := by
  intro i u hu
  rw [add_off, Nat.zero_add, Nat.zero_mul, Nat.zero_add]
  refine c i u ?_
  match i, hu with
  | 0, hu | 1, hu | 2, hu | 3, hu | 4, hu => exact hu
  | n + 5, hu => simp at hu
 have f2 : ∀ i u, ([.int .i64 1, .int .i64 5, .int .i64 8, .int .i64 3, .slice none 0 0] : List Value)[i]? = some u → w.cell? ((⟨g, 0, none⟩ : Addr).add (1 * 5 + i)) = some u := by
  intro i u hu
  rw [add_off, Nat.zero_add, Nat.one_mul]
  refine c (5 + i) u ?_
  match i, hu with
  | 0, hu | 1, hu | 2, hu | 3, hu | 4, hu => exact hu
  | n + 5, hu => simp at hu
 refine ⟨rfl, by rcases hl with rfl | rfl <;> decide, fun _ => ⟨_, rfl, fun j p hp => ?_⟩⟩
 match j with
 | 0 =>
  obtain rfl : p = ev1 := by rcases hl with rfl | rfl <;> exact (Option.some.inj hp).symm
  exact ⟨_, rfl, K1, f1⟩
 | 1 =>
  obtain rfl : p = ev2 := by
   rcases hl with rfl | rfl
   ·exact (Option.some.inj hp).symm
   ·cases hp
  exact ⟨_, rfl, K2, f2⟩
 | n + 2 => rcases hl with rfl | rfl <;> simp at hp
def grapevinelaw21_anchor.f : Option Bool := some true
theorem twice_both : judge_Twice.f [ev1, ev2] = some 1 := by decide +kernel
theorem twice_one : judge_Twice.f [ev1] = some (-1) := by decide +kernel
set_option maxRecDepth 100000 in
set_option maxHeartbeats 2000000 in
theorem anchor_walk (w : World) : Calls Try.prog 8 #[] w fun e w' => e = .returned (.bool true) ∧ Below w.heap.size w w' := by
 have mk2 := fun w => make2 w
 have mk1 := fun w => make1 w
 go_enter Try.func8, Try.ntmps8
 have T1 := fun (W : World) (h : W.heap[w.heap.size]? = some (.cells evCells 27 (0, 0))) => (show Calls Try.prog 10 #[.slice (some ⟨w.heap.size, 0, none⟩) 2 2] W fun e w' => e = .returned (.int .i64 1) ∧ Below W.heap.size W w' from judge_Twice.calls (some ⟨w.heap.size, 0, none⟩) 2 [ev1, ev2] 1 W (ev_row h _ (.inl rfl)) (Nat.le_refl _) twice_both)
 have T2 := fun (W : World) (h : W.heap[w.heap.size]? = some (.cells evCells 27 (0, 0))) => (show Calls Try.prog 10 #[.slice (some ⟨w.heap.size, 0, none⟩) 1 2] W fun e w' => e = .returned (.int .i64 (-1)) ∧ Below W.heap.size W w' from judge_Twice.calls (some ⟨w.heap.size, 0, none⟩) 2 [ev1] (-1) W (ev_row h _ (.inr rfl)) (by decide) twice_one)
 have T1' := Aside0.mk T1
 have T2' := Aside0.mk T2
 clear T1 T2
 go_wp2_with (first | (go_at_call 10; with_reducible refine (T1'.out _ (blk_new w _)).mono ?_; rintro e w1 ⟨rfl, hb1⟩; have H1 := Aside0.mk (blk_below (blk_new w _) hb1); have HB1 := Aside0.mk (below_step (below_alloc (Below.refl _ w) _) hb1); clear hb1) | (go_at_call 10; with_reducible refine (T2'.out _ H1.out).mono ?_; rintro e w2 ⟨rfl, hb2⟩; have H2 := Aside0.mk (blk_below H1.out hb2); have HB2 := Aside0.mk (below_step HB1.out hb2); clear hb2) | (go_at_call 14; go_loud (refine (agreed_zero w2.heap.size _ (blk_new w2 _)).mono ?_; rintro e w3 ⟨rfl, hb3⟩; have HB3 := Aside0.mk (below_step (below_alloc HB2.out _) hb3); clear hb3)) | (go_at_call 15; go_loud (refine (claimants_zero (w3.heap.size + 1) w3.heap.size _ (heap_alloc2_new w3 _ _) ((blk_cell (heap_alloc2_old w3 (.cells #[.int .i64 1] 3) _) 0).trans rfl)).mono ?_; rintro e w4 ⟨rfl, hb4⟩; have HB4 := Aside0.mk (below_step (below_alloc (below_alloc HB3.out _) _) hb4); clear hb4)))
 go_ret
 exact ⟨rfl, HB4.out⟩
theorem grapevinelaw21_anchor.calls (r : Bool) (w : World) (h : grapevinelaw21_anchor.f = some r) :
  Calls Try.prog 8 #[] w fun e w' => e = .returned (.bool r) ∧ Below w.heap.size w w' := by
 obtain rfl : true = r := Option.some.inj h
 exact anchor_walk w
/-! ### grapevinelaw21_small: function 9 -/
def grapevinelaw21_small.l0 : Nat → List (S27) → List (S27) → Int → Int → Option (Bool)
 | 0, _, _, _, _ => none
 | k + 1, x0, x5, x6, x7 => if x7 < x6 then (if 0 ≤ x7 then (if x7 < (x5.length : Int) then (if (((rd_T27 x5 x7).f4).length : Int) > 30 then (some false) else (grapevinelaw21_small.l0 k x0 x5 x6 (wrap64 (x7 + 1)))) else (none)) else (none)) else (some (decide ((x0.length : Int) ≤ 60)))
def grapevinelaw21_small.f (k : Nat) (l0 : List (S27)) : Option (Bool) := grapevinelaw21_small.l0 k l0 l0 (l0.length : Int) 0
theorem grapevinelaw21_small.mono_l : ∀ k, (∀ y0 y1 y2 y3, LeO (grapevinelaw21_small.l0 k y0 y1 y2 y3) (grapevinelaw21_small.l0 (k + 1) y0 y1 y2 y3))
 | 0 => fun _ _ _ _ r h => by simp [grapevinelaw21_small.l0] at h
 | k + 1 => by
  have ih0 := grapevinelaw21_small.mono_l k
  ·intro y0 y1 y2 y3
   unfold grapevinelaw21_small.l0
   repeat' first
   | (with_reducible exact ih0 _ _ _ _)
   | (with_reducible exact LeO.refl _)
   | (with_reducible exact LeO.none _)
   | (with_reducible refine LeO.ite ?_ ?_)
   | (with_reducible refine LeO.bind ?_ (fun _ => ?_))
   | exact ih0 _ _ _ _
   | exact LeO.none _
   | refine LeO.ite ?_ ?_
   | refine LeO.bind ?_ (fun _ => ?_)
theorem grapevinelaw21_small.mono : ∀ a0 k, LeO (grapevinelaw21_small.f k a0) (grapevinelaw21_small.f (k + 1) a0) := by
 intro a0 k
 have ih0 := grapevinelaw21_small.mono_l k
 unfold grapevinelaw21_small.f
 repeat' first
   | (with_reducible exact ih0 _ _ _ _)
   | (with_reducible exact LeO.refl _)
   | (with_reducible exact LeO.none _)
   | (with_reducible refine LeO.ite ?_ ?_)
   | (with_reducible refine LeO.bind ?_ (fun _ => ?_))
   | exact ih0 _ _ _ _
   | exact LeO.none _
   | refine LeO.ite ?_ ?_
   | refine LeO.bind ?_ (fun _ => ?_)
set_option maxHeartbeats 8000000 in
set_option maxRecDepth 100000 in
theorem grapevinelaw21_small.calls (k : Nat) (A0 : Option Addr) (c0 : Nat) (l0 : List (S27)) (r : Bool) (w : World) (hr0 : Kd.C k27 w A0 l0.length l0) (hc0 : l0.length ≤ c0) (h : grapevinelaw21_small.f k l0 = some r) :
  Calls Try.prog 9 #[.slice A0 l0.length c0] w fun e w' => e = .returned (.bool r) ∧ Below w.heap.size w w' := by
 have hu27 := Try.underlying27
 have HR0 := Aside0.mk hr0
 have HC0 := Aside0.mk hc0
 clear hr0 hc0
 have HB := Aside0.mk (Below.refl w.heap.size w)
 have H : (grapevinelaw21_small.l0 k l0 l0 (l0.length : Int) 0) = some r := h
 clear h
 have H' := Aside0.mk H
 clear H
 go_enter Try.func9, Try.ntmps9
 go_wp2
 go_loopg [7] k (fun kq v7 w' => ∃ (x7_1 : Int), v7 = .int .i64 x7_1 ∧ Aside0 (grapevinelaw21_small.l0 kq l0 l0 (l0.length : Int) x7_1 = some r) ∧ Aside0 (kq ≤ k) ∧ Aside0 (Below w.heap.size w w'))
 case atStart => exact ⟨(0), (by first | rfl | (simp; done) | (simp [*]; done)), H', ⟨Nat.le_refl _⟩, ⟨by repeat (first | (with_reducible first | exact HB.out | apply below_alloc | apply pw_below_drewN | apply below_drew1) | exact HB.out)⟩⟩
 case round =>
  clear H'
  obtain ⟨x7_1, rfl, HA, HK1, HB⟩ := hrel
  cases gk with
  | zero => exact absurd HA.out (by simp [grapevinelaw21_small.l0])
  | succ k1 =>
   have H := HA.out
   clear HA
   simp only [grapevinelaw21_small.l0] at H
   by_cases c2 : x7_1 < (l0.length : Int)
   rotate_left
   ·rw [if_neg c2] at H
    have c2b0 : decide (x7_1 < (l0.length : Int)) = false := decide_eq_false c2
    clear c2
    obtain rfl := Option.some.inj H
    go_wp2
    go_ret
    exact ⟨by first | rfl | (simp [errW_none, errW_some] <;> rfl) | (simp [*, errW_none, errW_some] <;> rfl), by repeat (first | (with_reducible first | exact HB.out | apply below_alloc | apply pw_below_drewN | apply below_drew1) | exact HB.out)⟩
   rw [if_pos c2] at H
   have c2b0 : decide (x7_1 < (l0.length : Int)) = true := decide_eq_true c2
   clear c2
   by_cases c3 : 0 ≤ x7_1
   rotate_left
   ·rw [if_neg c3] at H
    exact absurd H (by simp)
   rw [if_pos c3] at H
   have c3b0 : decide (0 ≤ x7_1) = true := decide_eq_true c3
   clear c3
   by_cases c4 : x7_1 < (l0.length : Int)
   rotate_left
   ·rw [if_neg c4] at H
    exact absurd H (by simp)
   rw [if_pos c4] at H
   have c4b0 : decide (x7_1 < (l0.length : Int)) = true := decide_eq_true c4
   clear c4
   by_cases c5 : (((rd_T27 l0 x7_1).f4).length : Int) > 30
   ·rw [if_pos c5] at H
    have c5b0 : decide (30 < (((rd_T27 l0 x7_1).f4).length : Int)) = true := decide_eq_true c5
    have c5b1 : decide (30 < ((rd_T27 l0 x7_1).f4).length) = true := decide_eq_true (by omega)
    clear c5
    obtain rfl := Option.some.inj H
    have p101 : 0 ≤ (x7_1 : Int) := of_decide_eq_true (by first | (with_reducible assumption) | assumption)
    have q101 : x7_1 < (l0.length : Int) := of_decide_eq_true (by first | (with_reducible assumption) | assumption)
    obtain ⟨ad101, A101_4, c101_4, e101, hx101_0, hx101_1, hx101_2, hx101_3, hx101_4, hl101_4, hi101_4⟩ := at_T27 HR0.out x7_1 p101 q101
    cases e101
    replace hx101_0 := (HB.out.cell (World.block_lt_of_cell? w _ hx101_0)).trans hx101_0
    replace hx101_1 := (HB.out.cell (World.block_lt_of_cell? w _ hx101_1)).trans hx101_1
    replace hx101_2 := (HB.out.cell (World.block_lt_of_cell? w _ hx101_2)).trans hx101_2
    replace hx101_3 := (HB.out.cell (World.block_lt_of_cell? w _ hx101_3)).trans hx101_3
    replace hx101_4 := (HB.out.cell (World.block_lt_of_cell? w _ hx101_4)).trans hx101_4
    have HR101_4 := Aside0.mk hi101_4
    have HC101_4 := Aside0.mk hl101_4
    clear hi101_4 hl101_4
    replace p101 := eq_true p101
    replace q101 := eq_true q101
    go_wp2_with (first | ((with_reducible refine gate_dst (N := 4) rfl ?_); refine box_event ?hg (N := 4) ?hd (cs := #[.int .i64 0, .int .i64 0, .int .i64 0, .int .i64 0, .slice none 0 0]) (t := 27) ?hr ?_; (case hd => rfl); (case hg => rfl); (case hr => first | (go_simp; done) | (go_simp; rfl)); intro gb102 hg w6 hbox hb; have n0_ := Aside0.mk (below_step (by repeat (first | (with_reducible first | exact HB.out | apply below_alloc | apply pw_below_drewN | apply below_drew1) | exact HB.out)) hb); have n1_ := Aside0.mk (hbox); have n2_ := Aside0.mk ((by rw [hg]; exact (below_size (by repeat (first | (with_reducible first | exact HB.out | apply below_alloc | apply pw_below_drewN | apply below_drew1) | exact HB.out))) : w.heap.size ≤ gb102)); have n3_ := Aside0.mk ((by rw [hg]; exact (below_size (by repeat (first | (with_reducible first | exact HB.out | apply below_alloc | apply pw_below_drewN | apply below_drew1) | exact HB.out))) : w.heap.size ≤ gb102)); clear HB; have HB := n0_; have BK102 := n1_; have GW102 := n2_; have GE102 := n3_; clear n0_ n1_ n2_ n3_; clear hb hbox hg; have hcz7_0 : w6.cell? ⟨gb102, 0, none⟩ = some (.int .i64 0) := (blk_cell BK102.out 0).trans rfl; have hcz7_1 : w6.cell? ⟨gb102, 1, none⟩ = some (.int .i64 0) := (blk_cell BK102.out 1).trans rfl; have hcz7_2 : w6.cell? ⟨gb102, 2, none⟩ = some (.int .i64 0) := (blk_cell BK102.out 2).trans rfl; have hcz7_3 : w6.cell? ⟨gb102, 3, none⟩ = some (.int .i64 0) := (blk_cell BK102.out 3).trans rfl; have hcz7_4 : w6.cell? ⟨gb102, 4, none⟩ = some (.slice none 0 0) := (blk_cell BK102.out 4).trans rfl; have hfz7_0 := blk_frozen BK102.out 0; have hfz7_1 := blk_frozen BK102.out 1; have hfz7_2 := blk_frozen BK102.out 2; have hfz7_3 := blk_frozen BK102.out 3; have hfz7_4 := blk_frozen BK102.out 4))
    go_ret
    exact ⟨by first | rfl | (simp [errW_none, errW_some] <;> rfl) | (simp [*, errW_none, errW_some] <;> rfl), by repeat (first | (with_reducible first | exact HB.out | apply below_alloc | apply pw_below_drewN | apply below_drew1 | refine below_set ?_ GE102.out) | exact HB.out)⟩
   rw [if_neg c5] at H
   have c5b0 : decide (30 < (((rd_T27 l0 x7_1).f4).length : Int)) = false := decide_eq_false c5
   have c5b1 : decide (30 < ((rd_T27 l0 x7_1).f4).length) = false := decide_eq_false (by omega)
   clear c5
   have H' := Aside0.mk H
   clear H
   have p101 : 0 ≤ (x7_1 : Int) := of_decide_eq_true (by first | (with_reducible assumption) | assumption)
   have q101 : x7_1 < (l0.length : Int) := of_decide_eq_true (by first | (with_reducible assumption) | assumption)
   obtain ⟨ad101, A101_4, c101_4, e101, hx101_0, hx101_1, hx101_2, hx101_3, hx101_4, hl101_4, hi101_4⟩ := at_T27 HR0.out x7_1 p101 q101
   cases e101
   replace hx101_0 := (HB.out.cell (World.block_lt_of_cell? w _ hx101_0)).trans hx101_0
   replace hx101_1 := (HB.out.cell (World.block_lt_of_cell? w _ hx101_1)).trans hx101_1
   replace hx101_2 := (HB.out.cell (World.block_lt_of_cell? w _ hx101_2)).trans hx101_2
   replace hx101_3 := (HB.out.cell (World.block_lt_of_cell? w _ hx101_3)).trans hx101_3
   replace hx101_4 := (HB.out.cell (World.block_lt_of_cell? w _ hx101_4)).trans hx101_4
   have HR101_4 := Aside0.mk hi101_4
   have HC101_4 := Aside0.mk hl101_4
   clear hi101_4 hl101_4
   replace p101 := eq_true p101
   replace q101 := eq_true q101
   go_wp2_with (first | ((with_reducible refine gate_dst (N := 4) rfl ?_); refine box_event ?hg (N := 4) ?hd (cs := #[.int .i64 0, .int .i64 0, .int .i64 0, .int .i64 0, .slice none 0 0]) (t := 27) ?hr ?_; (case hd => rfl); (case hg => rfl); (case hr => first | (go_simp; done) | (go_simp; rfl)); intro gb102 hg w8 hbox hb; have n0_ := Aside0.mk (below_step (by repeat (first | (with_reducible first | exact HB.out | apply below_alloc | apply pw_below_drewN | apply below_drew1) | exact HB.out)) hb); have n1_ := Aside0.mk (hbox); have n2_ := Aside0.mk ((by rw [hg]; exact (below_size (by repeat (first | (with_reducible first | exact HB.out | apply below_alloc | apply pw_below_drewN | apply below_drew1) | exact HB.out))) : w.heap.size ≤ gb102)); have n3_ := Aside0.mk ((by rw [hg]; exact (below_size (by repeat (first | (with_reducible first | exact HB.out | apply below_alloc | apply pw_below_drewN | apply below_drew1) | exact HB.out))) : w.heap.size ≤ gb102)); clear HB; have HB := n0_; have BK102 := n1_; have GW102 := n2_; have GE102 := n3_; clear n0_ n1_ n2_ n3_; clear hb hbox hg; have hcz9_0 : w8.cell? ⟨gb102, 0, none⟩ = some (.int .i64 0) := (blk_cell BK102.out 0).trans rfl; have hcz9_1 : w8.cell? ⟨gb102, 1, none⟩ = some (.int .i64 0) := (blk_cell BK102.out 1).trans rfl; have hcz9_2 : w8.cell? ⟨gb102, 2, none⟩ = some (.int .i64 0) := (blk_cell BK102.out 2).trans rfl; have hcz9_3 : w8.cell? ⟨gb102, 3, none⟩ = some (.int .i64 0) := (blk_cell BK102.out 3).trans rfl; have hcz9_4 : w8.cell? ⟨gb102, 4, none⟩ = some (.slice none 0 0) := (blk_cell BK102.out 4).trans rfl; have hfz9_0 := blk_frozen BK102.out 0; have hfz9_1 := blk_frozen BK102.out 1; have hfz9_2 := blk_frozen BK102.out 2; have hfz9_3 := blk_frozen BK102.out 3; have hfz9_4 := blk_frozen BK102.out 4))
   go_roundg k1
   case measure => have := HK1.out; omega
   case rel => exact ⟨(wrap64 (x7_1 + 1)), (by first | rfl | (simp; done) | (simp [*]; done)), H', ⟨by have := HK1.out; omega⟩, ⟨by repeat (first | (with_reducible first | exact HB.out | apply below_alloc | apply pw_below_drewN | apply below_drew1 | refine below_set ?_ GE102.out) | exact HB.out)⟩⟩

-- NOT PRINTED: function 19 (node_Event)
/-! ### judge_Clash: function 12 -/
/-- The first place at which p holds. -/
def idxFrom (p : S27 → Bool) (k : Int) : List S27 → Int
 | [] => -1
 | e :: l => if p e = true then k else idxFrom p (k + 1) l
def IdxRel (l : List S27) (p : S27 → Bool) (r : Int) (w0 : World) (i : Value) (wr : World) : Prop :=
 ∃ k : Nat, k ≤ l.length ∧ i = .int .i64 k ∧ Below w0.heap.size w0 wr ∧ idxFrom p k (l.drop k) = r
def evV (e : S27) (A4 : Option Addr) (c4 : Nat) : Value := .agg #[.int .i64 e.f0, .int .i64 e.f1, .int .i64 e.f2, .int .i64 e.f3, .slice A4 e.f4.length c4]

set_option maxRecDepth 100000 in
set_option maxHeartbeats 1000000 in
theorem equal_walk (A B : Option Addr) (cA cB : Nat) (xs ys : List Int) (w : World) (hx : (Kd.int .i64).C w A xs.length xs) (hy : (Kd.int .i64).C w B ys.length ys) :
  Calls Try.prog 21 #[.slice A xs.length cA, .slice B ys.length cB] w fun e w' => e = .returned (.bool (decide (xs = ys))) ∧ Below w.heap.size w w' := by
 have hlx := hx.2.1
 have hly := hy.2.1
 have HX := Aside0.mk hx
 have HY := Aside0.mk hy
 clear hx hy
 by_cases hn : xs.length = ys.length
 rotate_left
 ·have hd : decide (xs = ys) = false := decide_eq_false (fun h => hn (by rw [h]))
  have HD := Aside0.mk hd
  have hne : ((xs.length : Int) != (ys.length : Int)) = true := bne_iff_ne.mpr (by omega)
  clear hd
  go_enter Try.func21, Try.ntmps21
  go_wp2
  go_ret
  exact ⟨by rw [HD.out]; rfl, Below.refl _ _⟩
 obtain ⟨n, hnx⟩ : ∃ n, xs.length = n := ⟨_, rfl⟩
 have hny : ys.length = n := hn.symm.trans hnx
 rw [hnx] at HX hlx ⊢
 rw [hny] at HY ⊢
 clear hly hn
 have NX := Aside0.mk hnx
 have NY := Aside0.mk hny
 clear hnx hny
 go_enter Try.func21, Try.ntmps21
 go_wp2
 go_loopw [13] (fun i wr => ∃ k : Nat, k ≤ n ∧ i = .int .i64 k ∧ Below w.heap.size w wr ∧ xs.take k = ys.take k) (fun i _ => n - (intOf i).toNat)
 case atStart => exact ⟨0, Nat.zero_le _, rfl, Below.refl _ _, rfl⟩
 case round =>
  obtain ⟨k, hk, rfl, hB, ht⟩ := hrel
  have HB := Aside0.mk hB
  have HT := Aside0.mk ht
  clear hB ht
  by_cases hlt : k < n
  rotate_left
  ·obtain rfl : k = n := by omega
   have hd : decide (xs = ys) = true := decide_eq_true (by
    have := HT.out
    rw [List.take_of_length_le (by rw [NX.out]; exact Nat.le_refl _), List.take_of_length_le (by rw [NY.out]; exact Nat.le_refl _)] at this
    exact this)
   have HD := Aside0.mk hd
   clear hd
   go_wp2
   go_ret
   exact ⟨by rw [HD.out]; rfl, HB.out⟩
  obtain ⟨adx, hAx, hcx⟩ := Kd.at_int HX.out (k : Int) (by omega) (by omega)
  obtain ⟨ady, hAy, hcy⟩ := Kd.at_int HY.out (k : Int) (by omega) (by omega)
  subst hAx hAy
  rw [Int.toNat_natCast] at hcx hcy
  replace hcx := (HB.out.cell (World.block_lt_of_cell? w _ hcx)).trans hcx
  replace hcy := (HB.out.cell (World.block_lt_of_cell? w _ hcy)).trans hcy
  have rx : rd xs (k : Int) = xs[k]'(by rw [NX.out]; exact hlt) := by unfold rd; rw [List.getD_eq_getElem?_getD, Int.toNat_natCast, List.getElem?_eq_getElem (by rw [NX.out]; exact hlt)]; rfl
  have ry : rd ys (k : Int) = ys[k]'(by rw [NY.out]; exact hlt) := by unfold rd; rw [List.getD_eq_getElem?_getD, Int.toNat_natCast, List.getElem?_eq_getElem (by rw [NY.out]; exact hlt)]; rfl
  obtain ⟨x, hx⟩ : ∃ x, rd xs (k : Int) = x := ⟨_, rfl⟩
  obtain ⟨y, hy⟩ : ∃ y, rd ys (k : Int) = y := ⟨_, rfl⟩
  rw [hx] at hcx rx
  rw [hy] at hcy ry
  have RX := Aside0.mk rx
  have RY := Aside0.mk ry
  clear rx ry hx hy
  have p1 : 0 ≤ (k : Int) := by omega
  have p2 : (k : Int) < (n : Int) := by omega
  cases hne : (x != y) with
  | true =>
   have hd : decide (xs = ys) = false := decide_eq_false (fun h => by
    subst h
    exact absurd (RX.out.trans RY.out.symm) (bne_iff_ne.mp hne))
   have HD := Aside0.mk hd
   clear hd
   go_wp2
   go_quiet (fail)
   go_wp2
   go_ret
   exact ⟨by rw [HD.out]; rfl, pw_below_drewN HB.out nq⟩
  | false =>
   have hxy := bne_eq_false_iff_eq.mp hne
   have hs : xs.take (k + 1) = ys.take (k + 1) := by rw [List.take_succ_eq_append_getElem (by rw [NX.out]; exact hlt), List.take_succ_eq_append_getElem (by rw [NY.out]; exact hlt), HT.out, ← RX.out, ← RY.out, hxy]
   have HS := Aside0.mk hs
   clear hs hxy
   go_wp2
   go_quiet (fail)
   go_wp2
   go_roundw
   case rel => exact ⟨k + 1, by omega, by go_num, pw_below_drewN HB.out nq, HS.out⟩
   case measure => simp [intOf]; omega
/-- The closure of Clash: did o win what e has won, by the same voters? -/
def clashes (e o : S27) : Bool := o.f0 == 3 && (o.f3 == e.f3 && (o.f1 != e.f1 && decide (o.f4 = e.f4)))
set_option maxRecDepth 100000 in
set_option maxHeartbeats 1000000 in
theorem clashes_at (Be : Nat) (e o : S27) (A4 A5 : Option Addr) (c4 c5 : Nat) (w : World) (h1 : w.cell? ⟨Be, 1, none⟩ = some (.int .i64 e.f1)) (h3 : w.cell? ⟨Be, 3, none⟩ = some (.int .i64 e.f3)) (h4 : w.cell? ⟨Be, 4, none⟩ = some (.slice A5 e.f4.length c5))
  (ho : (Kd.int .i64).C w A4 o.f4.length o.f4) (he : (Kd.int .i64).C w A5 e.f4.length e.f4) :
  Calls Try.prog 20 #[evV o A4 c4, .pointer (some ⟨Be, 0, none⟩)] w fun r w' => r = .returned (.bool (clashes e o)) ∧ Below w.heap.size w w' := by
 have l2 := World.block_lt_of_cell? w _ h1
 dsimp only at l2
 have HO := Aside0.mk ho
 have HE := Aside0.mk he
 clear ho he
 unfold evV
 unfold clashes
 cases k0 : (o.f0 == 3) with
 | false =>
  go_enter Try.func20, Try.ntmps20
  go_wp2
  go_ret
  exact ⟨rfl, (Below.refl _ _).alloc (Nat.le_refl _) _⟩
 | true =>
  cases k1 : (o.f3 == e.f3) with
  | false =>
   go_enter Try.func20, Try.ntmps20
   go_wp2
   go_ret
   exact ⟨rfl, (Below.refl _ _).alloc (Nat.le_refl _) _⟩
  | true =>
   cases k2 : (o.f1 != e.f1) with
   | false =>
    go_enter Try.func20, Try.ntmps20
    go_wp2
    go_ret
    exact ⟨rfl, (Below.refl _ _).alloc (Nat.le_refl _) _⟩
   | true =>
    obtain ⟨r, hr⟩ : ∃ r, decide (o.f4 = e.f4) = r := ⟨_, rfl⟩
    have EQ := Aside0.mk (fun W hb => hr ▸ equal_walk A4 A5 c4 c5 o.f4 e.f4 W (Kd.C_below HO.out hb) (Kd.C_below HE.out hb))
    rw [hr]
    clear hr
    go_enter Try.func20, Try.ntmps20
    go_wp2_with (go_at_call 21; go_loud (refine (EQ.out _ (below_alloc (Below.refl _ w) _)).mono ?_; rintro e1 w1 ⟨rfl, hb1⟩; have HB1 := Aside0.mk (below_step (below_alloc (Below.refl _ w) _) hb1); clear hb1))
    go_ret
    exact ⟨rfl, HB1.out⟩

set_option maxRecDepth 100000 in
set_option maxHeartbeats 1000000 in
theorem index_at20 (Be : Nat) (A0 : Option Addr) (c0 : Nat) (l0 : List S27) (p : S27 → Bool) (w : World) (hr0 : Kd.C k27 w A0 l0.length l0)
  (hp : ∀ e A4 c4 W, Below w.heap.size w W → e.f4.length ≤ c4 → (Kd.int .i64).C W A4 e.f4.length e.f4 → Calls Try.prog 20 #[evV e A4 c4, .pointer (some ⟨Be, 0, none⟩)] W fun r W' => r = .returned (.bool (p e)) ∧ Below W.heap.size W W') :
  Calls Try.prog 19 #[.slice A0 l0.length c0, .func (.func 20) #[] #[.pointer (some ⟨Be, 0, none⟩)]] w fun e w' => e = .returned (.int .i64 (idxFrom p 0 l0)) ∧ Below w.heap.size w w' := by
 have hlen := hr0.2.1
 have HR := Aside0.mk hr0
 have HP := Aside0.mk hp
 clear hr0 hp
 go_enter Try.func19, Try.ntmps19
 go_wp2
 go_loopw [8] (fun i wr => IdxRel l0 p (idxFrom p 0 l0) w i wr) (fun i _ => l0.length - (intOf i).toNat)
 case atStart => exact ⟨0, Nat.zero_le _, rfl, Below.refl _ _, rfl⟩
 case round =>
  obtain ⟨k, hk, rfl, hB, hr⟩ := hrel
  have HB := Aside0.mk hB
  have HRR := Aside0.mk hr
  clear hB hr
  by_cases hlt : k < l0.length
  rotate_left
  ·obtain rfl : k = l0.length := by omega
   have hres : idxFrom p 0 l0 = -1 := by
    rw [← HRR.out, List.drop_length]
    rfl
   have HRES := Aside0.mk hres
   clear hres
   go_wp2
   go_ret
   exact ⟨by rw [HRES.out]; rfl, HB.out⟩
  obtain ⟨ad, A4, c4, hA, h0, h1, h2, h3, h4, h5, h6⟩ := at_T27 HR.out (k : Int) (by omega) (by omega)
  have hd := drop_at l0 k hlt
  obtain ⟨e, he⟩ : ∃ e, rd_T27 l0 (k : Int) = e := ⟨_, rfl⟩
  rw [he] at h0 h1 h2 h3 h4 h5 h6 hd
  rw [Int.toNat_natCast] at h0 h1 h2 h3 h4
  subst hA
  replace h0 := (HB.out.cell (World.block_lt_of_cell? w _ h0)).trans h0
  replace h1 := (HB.out.cell (World.block_lt_of_cell? w _ h1)).trans h1
  replace h2 := (HB.out.cell (World.block_lt_of_cell? w _ h2)).trans h2
  replace h3 := (HB.out.cell (World.block_lt_of_cell? w _ h3)).trans h3
  replace h4 := (HB.out.cell (World.block_lt_of_cell? w _ h4)).trans h4
  have CC := Aside0.mk (HP.out e A4 c4 _ HB.out h5 (Kd.C_below h6 HB.out))
  have HD := Aside0.mk hd
  clear hd h5 h6 he
  cases hpe : p e with
  | true =>
   have hres : idxFrom p 0 l0 = (k : Int) := by
    rw [← HRR.out, HD.out]
    simp only [idxFrom]
    rw [if_pos hpe]
   have HRES := Aside0.mk hres
   clear hres
   rw [hpe] at CC
   clear hpe
   go_wp2_with (go_at_call 20; go_loud (refine CC.out.mono ?_; rintro e1 w1 ⟨rfl, hb1⟩; have HB1 := Aside0.mk (below_step HB.out hb1); clear hb1))
   go_ret
   exact ⟨by rw [HRES.out]; rfl, HB1.out⟩
  | false =>
   have hres : idxFrom p ((k + 1 : Nat) : Int) (l0.drop (k + 1)) = idxFrom p 0 l0 := by
    rw [← HRR.out, HD.out]
    simp only [idxFrom]
    rw [hpe, if_neg (by decide)]
    rfl
   have HRES := Aside0.mk hres
   clear hres
   rw [hpe] at CC
   clear hpe
   go_wp2_with (go_at_call 20; go_loud (refine CC.out.mono ?_; rintro e1 w1 ⟨rfl, hb1⟩; have HB1 := Aside0.mk (below_step HB.out hb1); clear hb1))
   go_roundw
   case rel => exact ⟨k + 1, by omega, by go_num, HB1.out, HRES.out⟩
   case measure => simp [intOf]; omega

theorem C_take {w : World} {A : Option Addr} {l : List S27} (h : Kd.C k27 w A l.length l) (k : Nat) (hk : k ≤ l.length) : Kd.C k27 w A (l.take k).length (l.take k) := by
 refine ⟨rfl, by have := h.2.1; simp; omega, fun hn => ?_⟩
 obtain ⟨ad, e, hc⟩ := h.2.2 (by simp at hn; omega)
 refine ⟨ad, e, fun j p hj => hc j p ?_⟩
 rw [List.getElem?_take] at hj
 split at hj
 ·exact hj
 ·cases hj
def clashAt (l : List S27) (k : Nat) : Int := if (rd_T27 l (k : Int)).f0 = 3 then idxFrom (clashes (rd_T27 l (k : Int))) 0 (l.take k) else -1
def clashFrom (l : List S27) : Nat → Nat → Int × Int
 | 0, _ => (-1, -1)
 | d + 1, k => if 0 ≤ clashAt l k then (clashAt l k, (k : Int)) else clashFrom l d (k + 1)
def judge_Clash.f (l0 : List S27) : Option (Int × Int) := some (clashFrom l0 l0.length 0)
def ClRel (l : List S27) (r : Int × Int) (w0 : World) (i : Value) (wr : World) : Prop :=
 ∃ (k d : Nat), k + d = l.length ∧ i = .int .i64 k ∧ Below w0.heap.size w0 wr ∧ clashFrom l d k = r
set_option maxRecDepth 100000 in
set_option maxHeartbeats 4000000 in
theorem clash_walk (A0 : Option Addr) (c0 : Nat) (l0 : List S27) (w : World) (hr0 : Kd.C k27 w A0 l0.length l0) (hc0 : l0.length ≤ c0) :
  Calls Try.prog 12 #[.slice A0 l0.length c0] w fun e w' => e = .returned (.tuple #[.int .i64 (clashFrom l0 l0.length 0).1, .int .i64 (clashFrom l0 l0.length 0).2]) ∧ Below w.heap.size w w' := by
 have hmf : ∀ (fn : Fn) (first cap : Array Value) (w : World), (Instr.makeFunc fn first cap).run Try.prog w = .ok (.func fn first cap) w := fun _ _ _ _ => rfl
 have hlen := hr0.2.1
 have HR := Aside0.mk hr0
 clear hr0
 go_enter Try.func12, Try.ntmps12
 go_wp2
 go_loopw [9] (fun i wr => ClRel l0 (clashFrom l0 l0.length 0) w i wr) (fun i _ => l0.length - (intOf i).toNat)
 case atStart => exact ⟨0, l0.length, by omega, rfl, Below.refl _ _, rfl⟩
 case round =>
  obtain ⟨k, d, hk, rfl, hB, hr⟩ := hrel
  have HB := Aside0.mk hB
  have HRR := Aside0.mk hr
  clear hB hr
  by_cases hlt : k < l0.length
  rotate_left
  ·obtain rfl : d = 0 := by omega
   have hres : clashFrom l0 l0.length 0 = (-1, -1) := by
    rw [← HRR.out]
    rfl
   have HRES := Aside0.mk hres
   clear hres
   go_wp2
   go_ret2
   exact ⟨by rw [HRES.out]; rfl, HB.out⟩
  obtain ⟨d, rfl⟩ : ∃ d', d = d' + 1 := ⟨d - 1, by omega⟩
  obtain ⟨ad, A4, c4, hA, h0, h1, h2, h3, h4, h5, h6⟩ := at_T27 HR.out (k : Int) (by omega) (by omega)
  have hu : clashAt l0 k = if (rd_T27 l0 (k : Int)).f0 = 3 then idxFrom (clashes (rd_T27 l0 (k : Int))) 0 (l0.take k) else -1 := rfl
  obtain ⟨e, he⟩ : ∃ e, rd_T27 l0 (k : Int) = e := ⟨_, rfl⟩
  rw [he] at h0 h1 h2 h3 h4 h5 h6 hu
  rw [Int.toNat_natCast] at h0 h1 h2 h3 h4
  subst hA
  replace h0 := (HB.out.cell (World.block_lt_of_cell? w _ h0)).trans h0
  replace h1 := (HB.out.cell (World.block_lt_of_cell? w _ h1)).trans h1
  replace h2 := (HB.out.cell (World.block_lt_of_cell? w _ h2)).trans h2
  replace h3 := (HB.out.cell (World.block_lt_of_cell? w _ h3)).trans h3
  replace h4 := (HB.out.cell (World.block_lt_of_cell? w _ h4)).trans h4
  have H6 := Aside0.mk h6
  have HU := Aside0.mk hu
  have hkc : k ≤ c0 := by omega
  clear hu h5 h6 he
  cases hk3 : (e.f0 != 3) with
  | true =>
   have hres : clashFrom l0 d (k + 1) = clashFrom l0 l0.length 0 := by
    rw [← HRR.out]
    simp only [clashFrom]
    rw [HU.out, if_neg (bne_iff_ne.mp hk3), if_neg (by decide)]
   have HRES := Aside0.mk hres
   clear hres
   go_wp2
   go_roundw
   case rel => exact ⟨k + 1, d, by omega, by go_num, HB.out.alloc HB.out.size _, HRES.out⟩
   case measure => simp [intOf]; omega
  | false =>
   have hcl : clashAt l0 k = idxFrom (clashes e) 0 (l0.take k) := by rw [HU.out, if_pos (bne_eq_false_iff_eq.mp hk3)]
   have CT := Aside0.mk (C_take HR.out k (by omega))
   have htl : (l0.take k).length = k := by simp; omega
   have GV : ∀ W1, Below w.heap.size w W1 → ∀ Be, W1.cell? ⟨Be, 1, none⟩ = some (.int .i64 e.f1) → W1.cell? ⟨Be, 3, none⟩ = some (.int .i64 e.f3) → W1.cell? ⟨Be, 4, none⟩ = some (.slice A4 e.f4.length c4) →
     Calls Try.prog 19 #[.slice (some ad) k c0, .func (.func 20) #[] #[.pointer (some ⟨Be, 0, none⟩)]] W1 fun e1 w' => e1 = .returned (.int .i64 (clashAt l0 k)) ∧ Below W1.heap.size W1 w' := by
    intro W1 hb Be k1 k2 k3
    have := index_at20 Be (some ad) c0 (l0.take k) (clashes e) W1 (Kd.C_below CT.out hb) (fun o A5 c5 W2 hb2 _ ho => clashes_at Be e o A5 A4 c5 c4 W2 (pw_cell_below hb2 k1) (pw_cell_below hb2 k2) (pw_cell_below hb2 k3) ho (Kd.C_below (Kd.C_below H6.out hb) hb2))
    rw [htl, ← hcl] at this
    exact this
   obtain ⟨r, hrr⟩ : ∃ r, clashAt l0 k = r := ⟨_, rfl⟩
   have hstep : clashFrom l0 l0.length 0 = if 0 ≤ r then (r, (k : Int)) else clashFrom l0 d (k + 1) := by
    rw [← HRR.out]
    simp only [clashFrom]
    rw [hrr]
   rw [hrr] at GV
   have GVA := Aside0.mk GV
   have HST := Aside0.mk hstep
   clear GV hstep hcl htl hrr
   have HBN := Aside0.mk (below_step HB.out (below_alloc (Below.refl _ wr) (.cells #[.int .i64 e.f0, .int .i64 e.f1, .int .i64 e.f2, .int .i64 e.f3, .slice A4 e.f4.length c4] 27)))
   by_cases hr0 : 0 ≤ r
   ·have HRES := Aside0.mk (HST.out.trans (if_pos hr0))
    go_wp2_with (go_at_call 19; go_loud (refine (GVA.out _ HBN.out wr.heap.size (by simp) (by simp) (by simp)).mono ?_; rintro e1 w1 ⟨rfl, hb1⟩; have HB1 := Aside0.mk (below_step HBN.out hb1); clear hb1))
    go_ret2
    exact ⟨by rw [HRES.out]; rfl, HB1.out⟩
   have HRES := Aside0.mk (HST.out.trans (if_neg hr0)).symm
   go_wp2_with (go_at_call 19; go_loud (refine (GVA.out _ HBN.out wr.heap.size (by simp) (by simp) (by simp)).mono ?_; rintro e1 w1 ⟨rfl, hb1⟩; have HB1 := Aside0.mk (below_step HBN.out hb1); clear hb1))
   go_roundw
   case rel => exact ⟨k + 1, d, by omega, by go_num, HB1.out, HRES.out⟩
   case measure => simp [intOf]; omega
theorem judge_Clash.calls (A0 : Option Addr) (c0 : Nat) (l0 : List S27) (r1 r2 : Int) (w : World) (hr0 : Kd.C k27 w A0 l0.length l0) (hc0 : l0.length ≤ c0) (h : judge_Clash.f l0 = some (r1, r2)) :
  Calls Try.prog 12 #[.slice A0 l0.length c0] w fun e w' => e = .returned (.tuple #[.int .i64 r1, .int .i64 r2]) ∧ Below w.heap.size w w' := by
 have hh := Option.some.inj h
 have := clash_walk A0 c0 l0 w hr0 hc0
 rw [hh] at this
 exact this
/-! ### grapevinemade_Ints: function 13 -/
def grapevinemade_Ints.l0 : Nat → List Int → List Int → Int → Int → Option (Bool)
 | 0, _, _, _, _ => none
 | k + 1, x1, x12, x13, x14 => if x14 < x13 then (if 0 ≤ x14 then (if x14 < (x12.length : Int) then (if x14 < (x1.length : Int) then (if (rd x12 x14) = (rd x1 x14) then (grapevinemade_Ints.l0 k x1 x12 x13 (wrap64 (x14 + 1))) else (some false)) else (none)) else (none)) else (none)) else (some true)
def grapevinemade_Ints.f (k : Nat) (l0 : List Int) (l1 : List Int) : Option (Bool) := if (l0.length : Int) = (l1.length : Int) then (grapevinemade_Ints.l0 k l1 l0 (l0.length : Int) 0) else (some false)
theorem grapevinemade_Ints.mono_l : ∀ k, (∀ y0 y1 y2 y3, LeO (grapevinemade_Ints.l0 k y0 y1 y2 y3) (grapevinemade_Ints.l0 (k + 1) y0 y1 y2 y3))
 | 0 => fun _ _ _ _ r h => by simp [grapevinemade_Ints.l0] at h
 | k + 1 => by
  have ih0 := grapevinemade_Ints.mono_l k
  ·intro y0 y1 y2 y3
   unfold grapevinemade_Ints.l0
   repeat' first
   | (with_reducible exact ih0 _ _ _ _)
   | (with_reducible exact LeO.refl _)
   | (with_reducible exact LeO.none _)
   | (with_reducible refine LeO.ite ?_ ?_)
   | (with_reducible refine LeO.bind ?_ (fun _ => ?_))
   | exact ih0 _ _ _ _
   | exact LeO.none _
   | refine LeO.ite ?_ ?_
   | refine LeO.bind ?_ (fun _ => ?_)
theorem grapevinemade_Ints.mono : ∀ a0 a1 k, LeO (grapevinemade_Ints.f k a0 a1) (grapevinemade_Ints.f (k + 1) a0 a1) := by
 intro a0 a1 k
 have ih0 := grapevinemade_Ints.mono_l k
 unfold grapevinemade_Ints.f
 repeat' first
   | (with_reducible exact ih0 _ _ _ _)
   | (with_reducible exact LeO.refl _)
   | (with_reducible exact LeO.none _)
   | (with_reducible refine LeO.ite ?_ ?_)
   | (with_reducible refine LeO.bind ?_ (fun _ => ?_))
   | exact ih0 _ _ _ _
   | exact LeO.none _
   | refine LeO.ite ?_ ?_
   | refine LeO.bind ?_ (fun _ => ?_)
set_option maxHeartbeats 8000000 in
set_option maxRecDepth 100000 in
theorem grapevinemade_Ints.calls (k : Nat) (A0 : Option Addr) (c0 : Nat) (l0 : List Int) (A1 : Option Addr) (c1 : Nat) (l1 : List Int) (r : Bool) (w : World) (hr0 : Kd.C (Kd.int .i64) w A0 l0.length l0) (hc0 : l0.length ≤ c0) (hr1 : Kd.C (Kd.int .i64) w A1 l1.length l1) (hc1 : l1.length ≤ c1) (h : grapevinemade_Ints.f k l0 l1 = some r) :
  Calls Try.prog 13 #[.slice A0 l0.length c0, .slice A1 l1.length c1] w fun e w' => e = .returned (.bool r) ∧ Drawn0 w w' := by
 have HR0 := Aside0.mk hr0
 have HC0 := Aside0.mk hc0
 clear hr0 hc0
 have HR1 := Aside0.mk hr1
 have HC1 := Aside0.mk hc1
 clear hr1 hc1
 have H : (if (l0.length : Int) = (l1.length : Int) then (grapevinemade_Ints.l0 k l1 l0 (l0.length : Int) 0) else (some false)) = some r := h
 clear h
 by_cases c3 : (l0.length : Int) = (l1.length : Int)
 rotate_left
 ·rw [if_neg c3] at H
  have c3b0 : ((l0.length : Int) == (l1.length : Int)) = false := beq_eq_false_iff_ne.mpr c3
  have c3b1 : ((l0.length : Int) != (l1.length : Int)) = true := bne_iff_ne.mpr c3
  have c3b2 : (l0.length == l1.length) = false := by first | simpa using c3 | (simp at c3 ⊢; omega)
  obtain rfl := Option.some.inj H
  go_enter Try.func13, Try.ntmps13
  go_wp2
  go_ret
  exact ⟨by first | rfl | (simp; done) | (simp [*]; done), by repeat (first | exact Drawn0.refl _ | apply Drawn0.step)⟩
 rw [if_pos c3] at H
 have c3b0 : ((l0.length : Int) == (l1.length : Int)) = true := beq_iff_eq.mpr c3
 have c3b1 : ((l0.length : Int) != (l1.length : Int)) = false := bne_eq_false_iff_eq.mpr c3
 have c3b2 : (l0.length == l1.length) = true := by first | simpa using c3 | (simp at c3 ⊢; omega)
 clear c3
 have H' := Aside0.mk H
 clear H
 go_enter Try.func13, Try.ntmps13
 go_wp2
 go_loopg [14] k (fun kq v14 w' => ∃ (x14_1 : Int), v14 = .int .i64 x14_1 ∧ Aside0 (grapevinemade_Ints.l0 kq l1 l0 (l0.length : Int) x14_1 = some r) ∧ Aside0 (kq ≤ k) ∧ Drawn0 w w')
 case atStart => exact ⟨(0), (by first | rfl | (simp; done) | (simp [*]; done)), H', ⟨Nat.le_refl _⟩, by repeat (first | exact Drawn0.refl _ | apply Drawn0.step)⟩
 case round =>
  clear H'
  try clear c1
  try clear p2
  try clear c3
  try clear c3b0
  try clear c3b1
  try clear c3b2
  obtain ⟨x14_1, rfl, HA, HK1, ⟨m1, rfl⟩⟩ := hrel
  cases gk with
  | zero => exact absurd HA.out (by simp [grapevinemade_Ints.l0])
  | succ k1 =>
   have H := HA.out
   clear HA
   simp only [grapevinemade_Ints.l0] at H
   by_cases c4 : x14_1 < (l0.length : Int)
   rotate_left
   ·rw [if_neg c4] at H
    have c4b0 : decide (x14_1 < (l0.length : Int)) = false := decide_eq_false c4
    clear c4
    obtain rfl := Option.some.inj H
    go_wp2
    go_ret
    exact ⟨by first | rfl | (simp; done) | (simp [*]; done), by repeat (first | exact Drawn0.refl _ | apply Drawn0.step)⟩
   rw [if_pos c4] at H
   have c4b0 : decide (x14_1 < (l0.length : Int)) = true := decide_eq_true c4
   clear c4
   by_cases c5 : 0 ≤ x14_1
   rotate_left
   ·rw [if_neg c5] at H
    exact absurd H (by simp)
   rw [if_pos c5] at H
   have c5b0 : decide (0 ≤ x14_1) = true := decide_eq_true c5
   clear c5
   by_cases c6 : x14_1 < (l0.length : Int)
   rotate_left
   ·rw [if_neg c6] at H
    exact absurd H (by simp)
   rw [if_pos c6] at H
   have c6b0 : decide (x14_1 < (l0.length : Int)) = true := decide_eq_true c6
   clear c6
   by_cases c7 : x14_1 < (l1.length : Int)
   rotate_left
   ·rw [if_neg c7] at H
    exact absurd H (by simp)
   rw [if_pos c7] at H
   have c7b0 : decide (x14_1 < (l1.length : Int)) = true := decide_eq_true c7
   clear c7
   by_cases c8 : (rd l0 x14_1) = (rd l1 x14_1)
   rotate_left
   ·rw [if_neg c8] at H
    have c8b0 : ((rd l0 x14_1) == (rd l1 x14_1)) = false := beq_eq_false_iff_ne.mpr c8
    have c8b1 : ((rd l0 x14_1) != (rd l1 x14_1)) = true := bne_iff_ne.mpr c8
    obtain rfl := Option.some.inj H
    have p103 : 0 ≤ (x14_1 : Int) := of_decide_eq_true (by first | (with_reducible assumption) | assumption)
    have q103 : x14_1 < (l0.length : Int) := of_decide_eq_true (by first | (with_reducible assumption) | assumption)
    obtain ⟨ad103, e103, hx103_0⟩ := Kd.at_int HR0.out x14_1 p103 q103
    cases e103
    replace p103 := eq_true p103
    replace q103 := eq_true q103
    have p104 : 0 ≤ (x14_1 : Int) := of_decide_eq_true (by first | (with_reducible assumption) | assumption)
    have q104 : x14_1 < (l1.length : Int) := of_decide_eq_true (by first | (with_reducible assumption) | assumption)
    obtain ⟨ad104, e104, hx104_0⟩ := Kd.at_int HR1.out x14_1 p104 q104
    cases e104
    replace p104 := eq_true p104
    replace q104 := eq_true q104
    go_wp2
    go_ret
    exact ⟨by first | rfl | (simp; done) | (simp [*]; done), by repeat (first | exact Drawn0.refl _ | apply Drawn0.step)⟩
   rw [if_pos c8] at H
   have c8b0 : ((rd l0 x14_1) == (rd l1 x14_1)) = true := beq_iff_eq.mpr c8
   have c8b1 : ((rd l0 x14_1) != (rd l1 x14_1)) = false := bne_eq_false_iff_eq.mpr c8
   clear c8
   have H' := Aside0.mk H
   clear H
   have p103 : 0 ≤ (x14_1 : Int) := of_decide_eq_true (by first | (with_reducible assumption) | assumption)
   have q103 : x14_1 < (l0.length : Int) := of_decide_eq_true (by first | (with_reducible assumption) | assumption)
   obtain ⟨ad103, e103, hx103_0⟩ := Kd.at_int HR0.out x14_1 p103 q103
   cases e103
   replace p103 := eq_true p103
   replace q103 := eq_true q103
   have p104 : 0 ≤ (x14_1 : Int) := of_decide_eq_true (by first | (with_reducible assumption) | assumption)
   have q104 : x14_1 < (l1.length : Int) := of_decide_eq_true (by first | (with_reducible assumption) | assumption)
   obtain ⟨ad104, e104, hx104_0⟩ := Kd.at_int HR1.out x14_1 p104 q104
   cases e104
   replace p104 := eq_true p104
   replace q104 := eq_true q104
   go_wp2
   go_roundg k1
   case measure => have := HK1.out; omega
   case rel => exact ⟨(wrap64 (x14_1 + 1)), (by first | rfl | (simp; done) | (simp [*]; done)), H', ⟨by have := HK1.out; omega⟩, by repeat (first | exact Drawn0.refl _ | apply Drawn0.step)⟩
/-! ### grapevinelaw21_JudgeClashes: function 6 -/
mutual
def grapevinelaw21_JudgeClashes.l0 : Nat → List (S27) → Int → Int → List (S27) → Int → Int → Option (Bool)
 | 0, _, _, _, _, _, _ => none
 | k + 1, x0, x3, x4, x19, x20, x21 => if x21 < x20 then (if 0 ≤ x21 then (if x21 < (x19.length : Int) then (if x21 ≤ (x0.length : Int) then ((some (x0.take (x21 : Int).toNat : List (S27))).bind fun y111 => (grapevinelaw21_JudgeClashes.l1 k x0 x3 x4 x21 x19 x20 x21 y111 (y111.length : Int) 0 ((rd_T27 x19 x21).f0) ((rd_T27 x19 x21).f1) ((rd_T27 x19 x21).f2) ((rd_T27 x19 x21).f3) ((rd_T27 x19 x21).f4))) else (none)) else (none)) else (none)) else (if x3 = (-1) then (some (x4 == (-1))) else (some false))
def grapevinelaw21_JudgeClashes.l1 : Nat → List (S27) → Int → Int → Int → List (S27) → Int → Int → List (S27) → Int → Int → Int → Int → Int → Int → List Int → Option (Bool)
 | 0, _, _, _, _, _, _, _, _, _, _, _, _, _, _, _ => none
 | k + 1, x0, x3, x4, x5, x19, x20, x21, x28, x29, x30, x111000, x111001, x111002, x111003, x111004 => if x30 < x29 then (if 0 ≤ x30 then (if x30 < (x28.length : Int) then (if x111000 = 3 then (if ((rd_T27 x28 x30).f0) = 3 then (if x111003 = ((rd_T27 x28 x30).f3) then (if x111001 = ((rd_T27 x28 x30).f1) then (grapevinelaw21_JudgeClashes.l1 k x0 x3 x4 x5 x19 x20 x21 x28 x29 (wrap64 (x30 + 1)) x111000 x111001 x111002 x111003 x111004) else ((grapevinemade_Ints.f k x111004 ((rd_T27 x28 x30).f4)).bind fun t117 => (if t117 = true then (if x3 = x30 then (some (x4 == x5)) else (some false)) else (grapevinelaw21_JudgeClashes.l1 k x0 x3 x4 x5 x19 x20 x21 x28 x29 (wrap64 (x30 + 1)) x111000 x111001 x111002 x111003 x111004)))) else (grapevinelaw21_JudgeClashes.l1 k x0 x3 x4 x5 x19 x20 x21 x28 x29 (wrap64 (x30 + 1)) x111000 x111001 x111002 x111003 x111004)) else (grapevinelaw21_JudgeClashes.l1 k x0 x3 x4 x5 x19 x20 x21 x28 x29 (wrap64 (x30 + 1)) x111000 x111001 x111002 x111003 x111004)) else (grapevinelaw21_JudgeClashes.l1 k x0 x3 x4 x5 x19 x20 x21 x28 x29 (wrap64 (x30 + 1)) x111000 x111001 x111002 x111003 x111004)) else (none)) else (none)) else (grapevinelaw21_JudgeClashes.l0 k x0 x3 x4 x19 x20 (wrap64 (x21 + 1)))
end
def grapevinelaw21_JudgeClashes.f (k : Nat) (l0 : List (S27)) : Option (Bool) := (grapevinelaw21_anchor.f).bind fun t105 => (if t105 = true then ((grapevinelaw21_small.f k l0).bind fun t106 => (if t106 = true then ((judge_Clash.f l0).bind fun bt107 => (grapevinelaw21_JudgeClashes.l0 k l0 bt107.1 bt107.2 l0 (l0.length : Int) 0)) else (some true))) else (some false))
theorem grapevinelaw21_JudgeClashes.mono_l : ∀ k, (∀ y0 y1 y2 y3 y4 y5, LeO (grapevinelaw21_JudgeClashes.l0 k y0 y1 y2 y3 y4 y5) (grapevinelaw21_JudgeClashes.l0 (k + 1) y0 y1 y2 y3 y4 y5)) ∧ (∀ y0 y1 y2 y3 y4 y5 y6 y7 y8 y9 y10 y11 y12 y13 y14, LeO (grapevinelaw21_JudgeClashes.l1 k y0 y1 y2 y3 y4 y5 y6 y7 y8 y9 y10 y11 y12 y13 y14) (grapevinelaw21_JudgeClashes.l1 (k + 1) y0 y1 y2 y3 y4 y5 y6 y7 y8 y9 y10 y11 y12 y13 y14))
 | 0 => ⟨fun _ _ _ _ _ _ r h => by simp [grapevinelaw21_JudgeClashes.l0] at h, fun _ _ _ _ _ _ _ _ _ _ _ _ _ _ _ r h => by simp [grapevinelaw21_JudgeClashes.l1] at h⟩
 | k + 1 => by
  obtain ⟨ih0, ih1⟩ := grapevinelaw21_JudgeClashes.mono_l k
  refine ⟨?_, ?_⟩
  ·intro y0 y1 y2 y3 y4 y5
   unfold grapevinelaw21_JudgeClashes.l0
   repeat' first
   | (with_reducible exact ih0 _ _ _ _ _ _)
   | (with_reducible exact ih1 _ _ _ _ _ _ _ _ _ _ _ _ _ _ _)
   | (with_reducible exact grapevinelaw21_small.mono _ _)
   | (with_reducible exact grapevinemade_Ints.mono _ _ _)
   | (with_reducible exact LeO.refl _)
   | (with_reducible exact LeO.none _)
   | (with_reducible refine LeO.ite ?_ ?_)
   | (with_reducible refine LeO.bind ?_ (fun _ => ?_))
   | exact ih0 _ _ _ _ _ _
   | exact ih1 _ _ _ _ _ _ _ _ _ _ _ _ _ _ _
   | exact grapevinelaw21_small.mono _ _
   | exact grapevinemade_Ints.mono _ _ _
   | exact LeO.none _
   | refine LeO.ite ?_ ?_
   | refine LeO.bind ?_ (fun _ => ?_)
  ·intro y0 y1 y2 y3 y4 y5 y6 y7 y8 y9 y10 y11 y12 y13 y14
   unfold grapevinelaw21_JudgeClashes.l1
   repeat' first
   | (with_reducible exact ih0 _ _ _ _ _ _)
   | (with_reducible exact ih1 _ _ _ _ _ _ _ _ _ _ _ _ _ _ _)
   | (with_reducible exact grapevinelaw21_small.mono _ _)
   | (with_reducible exact grapevinemade_Ints.mono _ _ _)
   | (with_reducible exact LeO.refl _)
   | (with_reducible exact LeO.none _)
   | (with_reducible refine LeO.ite ?_ ?_)
   | (with_reducible refine LeO.bind ?_ (fun _ => ?_))
   | exact ih0 _ _ _ _ _ _
   | exact ih1 _ _ _ _ _ _ _ _ _ _ _ _ _ _ _
   | exact grapevinelaw21_small.mono _ _
   | exact grapevinemade_Ints.mono _ _ _
   | exact LeO.none _
   | refine LeO.ite ?_ ?_
   | refine LeO.bind ?_ (fun _ => ?_)
theorem grapevinelaw21_JudgeClashes.mono : ∀ a0 k, LeO (grapevinelaw21_JudgeClashes.f k a0) (grapevinelaw21_JudgeClashes.f (k + 1) a0) := by
 intro a0 k
 obtain ⟨ih0, ih1⟩ := grapevinelaw21_JudgeClashes.mono_l k
 unfold grapevinelaw21_JudgeClashes.f
 repeat' first
   | (with_reducible exact ih0 _ _ _ _ _ _)
   | (with_reducible exact ih1 _ _ _ _ _ _ _ _ _ _ _ _ _ _ _)
   | (with_reducible exact grapevinelaw21_small.mono _ _)
   | (with_reducible exact grapevinemade_Ints.mono _ _ _)
   | (with_reducible exact LeO.refl _)
   | (with_reducible exact LeO.none _)
   | (with_reducible refine LeO.ite ?_ ?_)
   | (with_reducible refine LeO.bind ?_ (fun _ => ?_))
   | exact ih0 _ _ _ _ _ _
   | exact ih1 _ _ _ _ _ _ _ _ _ _ _ _ _ _ _
   | exact grapevinelaw21_small.mono _ _
   | exact grapevinemade_Ints.mono _ _ _
   | exact LeO.none _
   | refine LeO.ite ?_ ?_
   | refine LeO.bind ?_ (fun _ => ?_)
set_option maxHeartbeats 8000000 in
set_option maxRecDepth 100000 in
theorem grapevinelaw21_JudgeClashes.calls (k : Nat) (A0 : Option Addr) (c0 : Nat) (l0 : List (S27)) (r : Bool) (w : World) (hr0 : Kd.C k27 w A0 l0.length l0) (hc0 : l0.length ≤ c0) (h : grapevinelaw21_JudgeClashes.f k l0 = some r) :
  Calls Try.prog 6 #[.slice A0 l0.length c0] w fun e w' => e = .returned (.bool r) ∧ Below w.heap.size w w' := by
 have hu27 := Try.underlying27
 have HR0 := Aside0.mk hr0
 have HC0 := Aside0.mk hc0
 clear hr0 hc0
 have HB := Aside0.mk (Below.refl w.heap.size w)
 have H : ((grapevinelaw21_anchor.f).bind fun t105 => (if t105 = true then ((grapevinelaw21_small.f k l0).bind fun t106 => (if t106 = true then ((judge_Clash.f l0).bind fun bt107 => (grapevinelaw21_JudgeClashes.l0 k l0 bt107.1 bt107.2 l0 (l0.length : Int) 0)) else (some true))) else (some false))) = some r := h
 clear h
 replace H := Option.bind_eq_some_iff.mp H
 obtain ⟨t105, A20, H⟩ := H
 replace H : (if t105 = true then ((grapevinelaw21_small.f k l0).bind fun t106 => (if t106 = true then ((judge_Clash.f l0).bind fun bt107 => (grapevinelaw21_JudgeClashes.l0 k l0 bt107.1 bt107.2 l0 (l0.length : Int) 0)) else (some true))) else (some false)) = some r := H
 have A2 := Aside0.mk A20
 clear A20
 by_cases c3 : t105 = true
 rotate_left
 ·replace c3 := Bool.eq_false_iff.mpr c3
  subst c3
  have H1 : (some false) = some r := by rw [if_neg (show ¬ (false = true) by decide)] at H; exact H
  clear H
  have H := H1
  clear H1
  obtain rfl := Option.some.inj H
  go_enter Try.func6, Try.ntmps6
  go_wp2_with (first | ((with_reducible refine gate_callee (f := 8) rfl ?_); refine goesL_ (some 9) rfl rfl Try.func8 (by kernel_rfl) rfl #[] rfl (by (try simp only [List.map_toArray, List.map_cons, List.map_nil]); first | done | rfl | (simp only [List.length_drop, List.length_take]; rfl)) ?_; (with_reducible refine (grapevinelaw21_anchor.calls  false _ A2.out).mono ?_); rintro e w60 ⟨rfl, hb⟩; refine ⟨_, rfl, ?_⟩; have n0_ := Aside0.mk (below_step (by repeat (first | (with_reducible first | exact HB.out | apply below_alloc | apply pw_below_drewN | apply below_drew1) | exact HB.out)) hb); clear HB; have HB := n0_; clear n0_; (try clear hb); (try clear hb2); (try clear hk); (try clear hi)))
  go_ret
  exact ⟨by first | rfl | (simp [errW_none, errW_some] <;> rfl) | (simp [*, errW_none, errW_some] <;> rfl), by repeat (first | (with_reducible first | exact HB.out | apply below_alloc | apply pw_below_drewN | apply below_drew1) | exact HB.out)⟩
 subst c3
 have H1 : ((grapevinelaw21_small.f k l0).bind fun t106 => (if t106 = true then ((judge_Clash.f l0).bind fun bt107 => (grapevinelaw21_JudgeClashes.l0 k l0 bt107.1 bt107.2 l0 (l0.length : Int) 0)) else (some true))) = some r := by rw [if_pos rfl] at H; exact H
 clear H
 have H := H1
 clear H1
 replace H := Option.bind_eq_some_iff.mp H
 obtain ⟨t106, A40, H⟩ := H
 replace H : (if t106 = true then ((judge_Clash.f l0).bind fun bt107 => (grapevinelaw21_JudgeClashes.l0 k l0 bt107.1 bt107.2 l0 (l0.length : Int) 0)) else (some true)) = some r := H
 have A4 := Aside0.mk A40
 clear A40
 by_cases c5 : t106 = true
 rotate_left
 ·replace c5 := Bool.eq_false_iff.mpr c5
  subst c5
  have H1 : (some true) = some r := by rw [if_neg (show ¬ (false = true) by decide)] at H; exact H
  clear H
  have H := H1
  clear H1
  obtain rfl := Option.some.inj H
  go_enter Try.func6, Try.ntmps6
  go_wp2_with (first | ((with_reducible refine gate_callee (f := 8) rfl ?_); refine goesL_ (some 9) rfl rfl Try.func8 (by kernel_rfl) rfl #[] rfl (by (try simp only [List.map_toArray, List.map_cons, List.map_nil]); first | done | rfl | (simp only [List.length_drop, List.length_take]; rfl)) ?_; (with_reducible refine (grapevinelaw21_anchor.calls  true _ A2.out).mono ?_); rintro e w58 ⟨rfl, hb⟩; refine ⟨_, rfl, ?_⟩; have n0_ := Aside0.mk (below_step (by repeat (first | (with_reducible first | exact HB.out | apply below_alloc | apply pw_below_drewN | apply below_drew1) | exact HB.out)) hb); clear HB; have HB := n0_; clear n0_; (try clear hb); (try clear hb2); (try clear hk); (try clear hi)) | ((with_reducible refine gate_callee (f := 9) rfl ?_); refine goesL_ (some 12) rfl rfl Try.func9 (by kernel_rfl) rfl #[.slice A0 l0.length c0] rfl (by (try simp only [List.map_toArray, List.map_cons, List.map_nil]); first | done | rfl | (simp only [List.length_drop, List.length_take]; rfl)) ?_; (with_reducible refine (grapevinelaw21_small.calls k _ _ l0 false _ ?side1 ?side2 A4.out).mono ?_); (case side1 => repeat (first | exact (Kd.C_below HR0.out HB.out) | (with_reducible refine Kd.C_alloc ?_ _) | (with_reducible refine Kd.C_drewN ?_ _) | (with_reducible refine Kd.C_drew ?_))); (case side2 => exact HC0.out); rintro e w59 ⟨rfl, hb⟩; refine ⟨_, rfl, ?_⟩; have n0_ := Aside0.mk (below_step (by repeat (first | (with_reducible first | exact HB.out | apply below_alloc | apply pw_below_drewN | apply below_drew1) | exact HB.out)) hb); clear HB; have HB := n0_; clear n0_; (try clear hb); (try clear hb2); (try clear hk); (try clear hi)))
  go_ret
  exact ⟨by first | rfl | (simp [errW_none, errW_some] <;> rfl) | (simp [*, errW_none, errW_some] <;> rfl), by repeat (first | (with_reducible first | exact HB.out | apply below_alloc | apply pw_below_drewN | apply below_drew1) | exact HB.out)⟩
 subst c5
 have H1 : ((judge_Clash.f l0).bind fun bt107 => (grapevinelaw21_JudgeClashes.l0 k l0 bt107.1 bt107.2 l0 (l0.length : Int) 0)) = some r := by rw [if_pos rfl] at H; exact H
 clear H
 have H := H1
 clear H1
 replace H := Option.bind_eq_some_iff.mp H
 obtain ⟨⟨t107, t108⟩, A60, H⟩ := H
 replace H : (grapevinelaw21_JudgeClashes.l0 k l0 t107 t108 l0 (l0.length : Int) 0) = some r := H
 have A6 := Aside0.mk A60
 clear A60
 have H' := Aside0.mk H
 clear H
 go_enter Try.func6, Try.ntmps6
 go_wp2_with (first | ((with_reducible refine gate_callee (f := 8) rfl ?_); refine goesL_ (some 9) rfl rfl Try.func8 (by kernel_rfl) rfl #[] rfl (by (try simp only [List.map_toArray, List.map_cons, List.map_nil]); first | done | rfl | (simp only [List.length_drop, List.length_take]; rfl)) ?_; (with_reducible refine (grapevinelaw21_anchor.calls  true _ A2.out).mono ?_); rintro e w7 ⟨rfl, hb⟩; refine ⟨_, rfl, ?_⟩; have n0_ := Aside0.mk (below_step (by repeat (first | (with_reducible first | exact HB.out | apply below_alloc | apply pw_below_drewN | apply below_drew1) | exact HB.out)) hb); clear HB; have HB := n0_; clear n0_; (try clear hb); (try clear hb2); (try clear hk); (try clear hi)) | ((with_reducible refine gate_callee (f := 9) rfl ?_); refine goesL_ (some 12) rfl rfl Try.func9 (by kernel_rfl) rfl #[.slice A0 l0.length c0] rfl (by (try simp only [List.map_toArray, List.map_cons, List.map_nil]); first | done | rfl | (simp only [List.length_drop, List.length_take]; rfl)) ?_; (with_reducible refine (grapevinelaw21_small.calls k _ _ l0 true _ ?side1 ?side2 A4.out).mono ?_); (case side1 => repeat (first | exact (Kd.C_below HR0.out HB.out) | (with_reducible refine Kd.C_alloc ?_ _) | (with_reducible refine Kd.C_drewN ?_ _) | (with_reducible refine Kd.C_drew ?_))); (case side2 => exact HC0.out); rintro e w8 ⟨rfl, hb⟩; refine ⟨_, rfl, ?_⟩; have n0_ := Aside0.mk (below_step (by repeat (first | (with_reducible first | exact HB.out | apply below_alloc | apply pw_below_drewN | apply below_drew1) | exact HB.out)) hb); clear HB; have HB := n0_; clear n0_; (try clear hb); (try clear hb2); (try clear hk); (try clear hi)) | ((with_reducible refine gate_callee (f := 12) rfl ?_); refine goesL_ (some 16) rfl rfl Try.func12 (by kernel_rfl) rfl #[.slice A0 l0.length c0] rfl (by (try simp only [List.map_toArray, List.map_cons, List.map_nil]); first | done | rfl | (simp only [List.length_drop, List.length_take]; rfl)) ?_; (with_reducible refine (judge_Clash.calls _ _ l0 t107 t108 _ ?side1 ?side2 A6.out).mono ?_); (case side1 => repeat (first | exact (Kd.C_below HR0.out HB.out) | (with_reducible refine Kd.C_alloc ?_ _) | (with_reducible refine Kd.C_drewN ?_ _) | (with_reducible refine Kd.C_drew ?_))); (case side2 => exact HC0.out); rintro e w9 ⟨rfl, hb⟩; refine ⟨_, rfl, ?_⟩; have n0_ := Aside0.mk (below_step (by repeat (first | (with_reducible first | exact HB.out | apply below_alloc | apply pw_below_drewN | apply below_drew1) | exact HB.out)) hb); clear HB; have HB := n0_; clear n0_; (try clear hb); (try clear hb2); (try clear hk); (try clear hi)))
 go_loopg [21] k (fun kq v21 w' => ∃ (x21_1 : Int), v21 = .int .i64 x21_1 ∧ Aside0 (grapevinelaw21_JudgeClashes.l0 kq l0 t107 t108 l0 (l0.length : Int) x21_1 = some r) ∧ Aside0 (kq ≤ k) ∧ Aside0 (Below w.heap.size w w'))
 case atStart => exact ⟨(0), (by first | rfl | (simp; done) | (simp [*]; done)), H', ⟨Nat.le_refl _⟩, ⟨by repeat (first | (with_reducible first | exact HB.out | apply below_alloc | apply pw_below_drewN | apply below_drew1) | exact HB.out)⟩⟩
 case round =>
  clear H'
  try clear c1
  try clear p2
  try clear c3
  try clear c5
  try clear c6
  try clear c8
  try clear c9
  obtain ⟨x21_1, rfl, HA, HK1, HB⟩ := hrel
  cases gk with
  | zero => exact absurd HA.out (by simp [grapevinelaw21_JudgeClashes.l0])
  | succ k1 =>
   have H := HA.out
   clear HA
   simp only [grapevinelaw21_JudgeClashes.l0] at H
   by_cases c10 : x21_1 < (l0.length : Int)
   rotate_left
   ·rw [if_neg c10] at H
    have c10b0 : decide (x21_1 < (l0.length : Int)) = false := decide_eq_false c10
    clear c10
    by_cases c57 : t107 = (-1)
    rotate_left
    ·rw [if_neg c57] at H
     have c57b0 : (t107 == (-1)) = false := beq_eq_false_iff_ne.mpr c57
     have c57b1 : (t107 != (-1)) = true := bne_iff_ne.mpr c57
     obtain rfl := Option.some.inj H
     go_wp2
     go_ret
     exact ⟨by first | rfl | (simp [errW_none, errW_some] <;> rfl) | (simp [*, errW_none, errW_some] <;> rfl), by repeat (first | (with_reducible first | exact HB.out | apply below_alloc | apply pw_below_drewN | apply below_drew1) | exact HB.out)⟩
    rw [if_pos c57] at H
    have c57b0 : (t107 == (-1)) = true := beq_iff_eq.mpr c57
    have c57b1 : (t107 != (-1)) = false := bne_eq_false_iff_eq.mpr c57
    clear c57
    obtain rfl := Option.some.inj H
    go_wp2
    go_ret
    exact ⟨by first | rfl | (simp [errW_none, errW_some] <;> rfl) | (simp [*, errW_none, errW_some] <;> rfl), by repeat (first | (with_reducible first | exact HB.out | apply below_alloc | apply pw_below_drewN | apply below_drew1) | exact HB.out)⟩
   rw [if_pos c10] at H
   have c10b0 : decide (x21_1 < (l0.length : Int)) = true := decide_eq_true c10
   clear c10
   by_cases c11 : 0 ≤ x21_1
   rotate_left
   ·rw [if_neg c11] at H
    exact absurd H (by simp)
   rw [if_pos c11] at H
   have c11b0 : decide (0 ≤ x21_1) = true := decide_eq_true c11
   clear c11
   by_cases c12 : x21_1 < (l0.length : Int)
   rotate_left
   ·rw [if_neg c12] at H
    exact absurd H (by simp)
   rw [if_pos c12] at H
   have c12b0 : decide (x21_1 < (l0.length : Int)) = true := decide_eq_true c12
   clear c12
   have c13b0 := eq_true (of_decide_eq_true (by first | (with_reducible assumption) | assumption) : 0 ≤ x21_1)
   by_cases c14 : x21_1 ≤ (l0.length : Int)
   rotate_left
   ·rw [if_neg c14] at H
    exact absurd H (by simp)
   rw [if_pos c14] at H
   have c14b0 := eq_true c14
   have c14b1 : decide (x21_1 ≤ (l0.length : Int)) = true := decide_eq_true c14
   clear c14
   obtain ⟨y111, hy111⟩ : ∃ y_ : List (S27), y_ = (l0.take (x21_1 : Int).toNat) := ⟨_, rfl⟩
   replace H : (grapevinelaw21_JudgeClashes.l1 k1 l0 t107 t108 x21_1 l0 (l0.length : Int) x21_1 y111 (y111.length : Int) 0 ((rd_T27 l0 x21_1).f0) ((rd_T27 l0 x21_1).f1) ((rd_T27 l0 x21_1).f2) ((rd_T27 l0 x21_1).f3) ((rd_T27 l0 x21_1).f4)) = some r := by first | (rw [hy111]; with_reducible exact H) | (have H2_ := (Option.bind_some _ _).symm.trans H; rw [hy111]; with_reducible exact H2_) | (have H2_ := (Option.bind_some _ _).symm.trans H; with_reducible exact H2_) | with_reducible exact H | (rw [hy111]; exact H) | exact H
   have Ny111 := Aside0.mk hy111
   clear hy111
   have H' := Aside0.mk H
   clear H
   have p109 : 0 ≤ (x21_1 : Int) := of_decide_eq_true (by first | (with_reducible assumption) | assumption)
   have q109 : x21_1 < (l0.length : Int) := of_decide_eq_true (by first | (with_reducible assumption) | assumption)
   obtain ⟨ad109, A109_4, c109_4, e109, hx109_0, hx109_1, hx109_2, hx109_3, hx109_4, hl109_4, hi109_4⟩ := at_T27 HR0.out x21_1 p109 q109
   cases e109
   replace hx109_0 := (HB.out.cell (World.block_lt_of_cell? w _ hx109_0)).trans hx109_0
   replace hx109_1 := (HB.out.cell (World.block_lt_of_cell? w _ hx109_1)).trans hx109_1
   replace hx109_2 := (HB.out.cell (World.block_lt_of_cell? w _ hx109_2)).trans hx109_2
   replace hx109_3 := (HB.out.cell (World.block_lt_of_cell? w _ hx109_3)).trans hx109_3
   replace hx109_4 := (HB.out.cell (World.block_lt_of_cell? w _ hx109_4)).trans hx109_4
   have HR109_4 := Aside0.mk hi109_4
   have HC109_4 := Aside0.mk hl109_4
   clear hi109_4 hl109_4
   replace p109 := eq_true p109
   replace q109 := eq_true q109
   go_wp2_with (first | ((with_reducible refine gate_dst (N := 6) rfl ?_); refine box_event ?hg (N := 6) ?hd (cs := #[.int .i64 0, .int .i64 0, .int .i64 0, .int .i64 0, .slice none 0 0]) (t := 27) ?hr ?_; (case hd => rfl); (case hg => rfl); (case hr => first | (go_simp; done) | (go_simp; rfl)); intro gb110 hg w15 hbox hb; have n0_ := Aside0.mk (below_step (by repeat (first | (with_reducible first | exact HB.out | apply below_alloc | apply pw_below_drewN | apply below_drew1) | exact HB.out)) hb); have n1_ := Aside0.mk (hbox); have n2_ := Aside0.mk ((by rw [hg]; exact (below_size (by repeat (first | (with_reducible first | exact HB.out | apply below_alloc | apply pw_below_drewN | apply below_drew1) | exact HB.out))) : w.heap.size ≤ gb110)); have n3_ := Aside0.mk ((by rw [hg]; exact (below_size (by repeat (first | (with_reducible first | exact HB.out | apply below_alloc | apply pw_below_drewN | apply below_drew1) | exact HB.out))) : w.heap.size ≤ gb110)); clear HB; have HB := n0_; have BK110 := n1_; have GW110 := n2_; have GE110 := n3_; clear n0_ n1_ n2_ n3_; clear hb hbox hg; have hcz16_0 : w15.cell? ⟨gb110, 0, none⟩ = some (.int .i64 0) := (blk_cell BK110.out 0).trans rfl; have hcz16_1 : w15.cell? ⟨gb110, 1, none⟩ = some (.int .i64 0) := (blk_cell BK110.out 1).trans rfl; have hcz16_2 : w15.cell? ⟨gb110, 2, none⟩ = some (.int .i64 0) := (blk_cell BK110.out 2).trans rfl; have hcz16_3 : w15.cell? ⟨gb110, 3, none⟩ = some (.int .i64 0) := (blk_cell BK110.out 3).trans rfl; have hcz16_4 : w15.cell? ⟨gb110, 4, none⟩ = some (.slice none 0 0) := (blk_cell BK110.out 4).trans rfl; have hfz16_0 := blk_frozen BK110.out 0; have hfz16_1 := blk_frozen BK110.out 1; have hfz16_2 := blk_frozen BK110.out 2; have hfz16_3 := blk_frozen BK110.out 3; have hfz16_4 := blk_frozen BK110.out 4) | ((with_reducible refine gate_store (t := 27) (p := 6) rfl ?_); refine store_event (t := 27) (p := 6) (v := ?vo_w17) (w1 := (((((w15.setCell ⟨gb110, 0, none⟩ (.int .i64 ((rd_T27 l0 x21_1).f0))).setCell ⟨gb110, 1, none⟩ (.int .i64 ((rd_T27 l0 x21_1).f1))).setCell ⟨gb110, 2, none⟩ (.int .i64 ((rd_T27 l0 x21_1).f2))).setCell ⟨gb110, 3, none⟩ (.int .i64 ((rd_T27 l0 x21_1).f3))).setCell ⟨gb110, 4, none⟩ (.slice A109_4 ((rd_T27 l0 x21_1).f4).length c109_4))) ?hg ?ho ?hn ?hr ?_; (case ho => rfl); (case hg => rfl); (case hn => rfl); (case hr => first | (go_simp; done) | (go_simp; rfl)); intro w17 hw; have n0_ : Aside0 (w17.heap[gb110]? = some (.cells #[.int .i64 ((rd_T27 l0 x21_1).f0), .int .i64 ((rd_T27 l0 x21_1).f1), .int .i64 ((rd_T27 l0 x21_1).f2), .int .i64 ((rd_T27 l0 x21_1).f3), .slice A109_4 ((rd_T27 l0 x21_1).f4).length c109_4] 27 (0, 0))) := ⟨(by rw [hw]; exact (by (with_reducible repeat (first | refine blk_drewN ?_ _ | refine blk_drew ?_ | refine blk_alloc ?_ _)); refine blk_put (cs := #[.int .i64 ((rd_T27 l0 x21_1).f0), .int .i64 ((rd_T27 l0 x21_1).f1), .int .i64 ((rd_T27 l0 x21_1).f2), .int .i64 ((rd_T27 l0 x21_1).f3), .slice none 0 0]) ?_ 4 _ rfl; (with_reducible repeat (first | refine blk_drewN ?_ _ | refine blk_drew ?_ | refine blk_alloc ?_ _)); refine blk_put (cs := #[.int .i64 ((rd_T27 l0 x21_1).f0), .int .i64 ((rd_T27 l0 x21_1).f1), .int .i64 ((rd_T27 l0 x21_1).f2), .int .i64 0, .slice none 0 0]) ?_ 3 _ rfl; (with_reducible repeat (first | refine blk_drewN ?_ _ | refine blk_drew ?_ | refine blk_alloc ?_ _)); refine blk_put (cs := #[.int .i64 ((rd_T27 l0 x21_1).f0), .int .i64 ((rd_T27 l0 x21_1).f1), .int .i64 0, .int .i64 0, .slice none 0 0]) ?_ 2 _ rfl; (with_reducible repeat (first | refine blk_drewN ?_ _ | refine blk_drew ?_ | refine blk_alloc ?_ _)); refine blk_put (cs := #[.int .i64 ((rd_T27 l0 x21_1).f0), .int .i64 0, .int .i64 0, .int .i64 0, .slice none 0 0]) ?_ 1 _ rfl; (with_reducible repeat (first | refine blk_drewN ?_ _ | refine blk_drew ?_ | refine blk_alloc ?_ _)); refine blk_put (cs := #[.int .i64 0, .int .i64 0, .int .i64 0, .int .i64 0, .slice none 0 0]) ?_ 0 _ rfl; (with_reducible repeat (first | refine blk_drewN ?_ _ | refine blk_drew ?_ | refine blk_alloc ?_ _)); exact BK110.out))⟩; have n1_ : Aside0 (Below w.heap.size w w17) := ⟨(by rw [hw]; exact (by repeat (first | (with_reducible first | exact HB.out | apply below_alloc | apply pw_below_drewN | apply below_drew1 | refine below_set ?_ GE110.out) | exact HB.out)))⟩; clear hw; clear BK110; clear HB; have BK110 := n0_; have HB := n1_; clear n0_ n1_; have q18 : (x21_1 : Int) ≤ ((l0.length : Int) : Int) := of_decide_eq_true (by first | (with_reducible assumption) | assumption); obtain ⟨i018, hi018, _, hsz18, _⟩ := info_parts info27; have hroom18 : l0.length ≤ c0 := HC0.out; have hC18 : Kd.C k27 _ (some ad109) l0.length l0 := HR0.out; have hcut18 := cut_to (P := Try.prog) 22 27 .i64 Try.underlying22 hi018 (some ad109) l0.length c0 x21_1 (of_decide_eq_true (by first | (with_reducible assumption) | assumption)) q18 hroom18; have hr18 := Kd.C_take (m := (x21_1 : Int).toNat) hC18 (by omega); have hy18 : y111.length = (x21_1 : Int).toNat := (by rw [Ny111.out, List.length_take]; omega); rw [← Ny111.out] at hr18; rw [← hy18] at hcut18; have HR114 := Aside0.mk hr18; have HC114 := Aside0.mk (show y111.length ≤ c0 from by omega); clear hr18 hC18 hroom18 hi018 hsz18; have KY18 := Aside0.mk hy18; clear hy18; replace q18 := eq_true q18))
   go_loopg [30] k1 (fun kq v30 w' => ∃ (x30_2 : Int), v30 = .int .i64 x30_2 ∧ Aside0 (grapevinelaw21_JudgeClashes.l1 kq l0 t107 t108 x21_1 l0 (l0.length : Int) x21_1 y111 (y111.length : Int) x30_2 ((rd_T27 l0 x21_1).f0) ((rd_T27 l0 x21_1).f1) ((rd_T27 l0 x21_1).f2) ((rd_T27 l0 x21_1).f3) ((rd_T27 l0 x21_1).f4) = some r) ∧ Aside0 (kq ≤ k1) ∧ Aside0 (w'.heap[gb110]? = some (.cells #[.int .i64 ((rd_T27 l0 x21_1).f0), .int .i64 ((rd_T27 l0 x21_1).f1), .int .i64 ((rd_T27 l0 x21_1).f2), .int .i64 ((rd_T27 l0 x21_1).f3), (.slice A109_4 ((rd_T27 l0 x21_1).f4).length c109_4)] 27 (0, 0))) ∧ Aside0 (Below w.heap.size w w'))
   case atStart => exact ⟨(0), (by first | rfl | (simp; done) | (simp [*]; done)), H', ⟨Nat.le_refl _⟩, ⟨by (with_reducible repeat (first | refine blk_drewN ?_ _ | refine blk_drew ?_ | refine blk_alloc ?_ _)); exact BK110.out⟩, ⟨by repeat (first | (with_reducible first | exact HB.out | apply below_alloc | apply pw_below_drewN | apply below_drew1 | refine below_set ?_ GE110.out) | exact HB.out)⟩⟩
   case round =>
    clear H'
    try clear c1
    try clear p1
    try clear q1
    try clear hx1
    try clear p2
    try clear c3
    try clear c5
    try clear c6
    try clear c8
    try clear c9
    try clear c10
    try clear c10b0
    try clear p10
    try clear q10
    try clear hx10
    try clear c11
    try clear c11b0
    try clear c12
    try clear c12b0
    try clear c13
    try clear c13b0
    try clear c14
    try clear c14b0
    try clear c14b1
    try clear q18
    try clear hcz16_0
    try clear hcz16_1
    try clear hcz16_2
    try clear hcz16_3
    try clear hcz16_4
    try clear hfz16_0
    try clear hfz16_1
    try clear hfz16_2
    try clear hfz16_3
    try clear hfz16_4
    try clear hx109_0
    try clear hx109_1
    try clear hx109_2
    try clear hx109_3
    try clear hx109_4
    try clear p109
    try clear p2
    try clear q109
    try clear q18
    obtain ⟨x30_2, rfl, HA, HK2, BK110, HB⟩ := hrel
    cases gk with
    | zero => exact absurd HA.out (by simp [grapevinelaw21_JudgeClashes.l1])
    | succ k2 =>
     have H := HA.out
     clear HA
     simp only [grapevinelaw21_JudgeClashes.l1] at H
     by_cases c19 : x30_2 < (y111.length : Int)
     rotate_left
     ·rw [if_neg c19] at H
      have c19b0 : decide (x30_2 < (y111.length : Int)) = false := decide_eq_false c19
      clear c19
      have H' := Aside0.mk H
      clear H
      go_wp2
      go_roundg k2
      case measure => have := HK1.out; have := HK2.out; omega
      case rel => exact ⟨(wrap64 (x21_1 + 1)), (by first | rfl | (simp; done) | (simp [*]; done)), H', ⟨by have := HK1.out; have := HK2.out; omega⟩, ⟨by repeat (first | (with_reducible first | exact HB.out | apply below_alloc | apply pw_below_drewN | apply below_drew1 | refine below_set ?_ GE110.out) | exact HB.out)⟩⟩
     rw [if_pos c19] at H
     have c19b0 : decide (x30_2 < (y111.length : Int)) = true := decide_eq_true c19
     clear c19
     by_cases c20 : 0 ≤ x30_2
     rotate_left
     ·rw [if_neg c20] at H
      exact absurd H (by simp)
     rw [if_pos c20] at H
     have c20b0 : decide (0 ≤ x30_2) = true := decide_eq_true c20
     clear c20
     by_cases c21 : x30_2 < (y111.length : Int)
     rotate_left
     ·rw [if_neg c21] at H
      exact absurd H (by simp)
     rw [if_pos c21] at H
     have c21b0 : decide (x30_2 < (y111.length : Int)) = true := decide_eq_true c21
     clear c21
     by_cases c22 : ((rd_T27 l0 x21_1).f0) = 3
     rotate_left
     ·rw [if_neg c22] at H
      have c22b0 : (((rd_T27 l0 x21_1).f0) == 3) = false := beq_eq_false_iff_ne.mpr c22
      have c22b1 : (((rd_T27 l0 x21_1).f0) != 3) = true := bne_iff_ne.mpr c22
      have H' := Aside0.mk H
      clear H
      have p115 : 0 ≤ (x30_2 : Int) := of_decide_eq_true (by first | (with_reducible assumption) | assumption)
      have q115 : x30_2 < (y111.length : Int) := of_decide_eq_true (by first | (with_reducible assumption) | assumption)
      obtain ⟨ad115, A115_4, c115_4, e115, hx115_0, hx115_1, hx115_2, hx115_3, hx115_4, hl115_4, hi115_4⟩ := at_T27 HR114.out x30_2 p115 q115
      obtain rfl : ad109 = ad115 := (by injection e115)
      replace hx115_0 := (HB.out.cell (World.block_lt_of_cell? w _ hx115_0)).trans hx115_0
      replace hx115_1 := (HB.out.cell (World.block_lt_of_cell? w _ hx115_1)).trans hx115_1
      replace hx115_2 := (HB.out.cell (World.block_lt_of_cell? w _ hx115_2)).trans hx115_2
      replace hx115_3 := (HB.out.cell (World.block_lt_of_cell? w _ hx115_3)).trans hx115_3
      replace hx115_4 := (HB.out.cell (World.block_lt_of_cell? w _ hx115_4)).trans hx115_4
      have HR115_4 := Aside0.mk hi115_4
      have HC115_4 := Aside0.mk hl115_4
      clear hi115_4 hl115_4
      replace p115 := eq_true p115
      replace q115 := eq_true q115
      go_wp2_with (first | ((with_reducible refine gate_dst (N := 8) rfl ?_); refine box_event ?hg (N := 8) ?hd (cs := #[.int .i64 0, .int .i64 0, .int .i64 0, .int .i64 0, .slice none 0 0]) (t := 27) ?hr ?_; (case hd => rfl); (case hg => rfl); (case hr => first | (go_simp; done) | (go_simp; rfl)); intro gb116 hg w53 hbox hb; have n0_ := Aside0.mk (blk_below (g := gb110) (o := .cells #[.int .i64 ((rd_T27 l0 x21_1).f0), .int .i64 ((rd_T27 l0 x21_1).f1), .int .i64 ((rd_T27 l0 x21_1).f2), .int .i64 ((rd_T27 l0 x21_1).f3), .slice A109_4 ((rd_T27 l0 x21_1).f4).length c109_4] 27 (0, 0)) (by (with_reducible repeat (first | refine blk_drewN ?_ _ | refine blk_drew ?_ | refine blk_alloc ?_ _)); exact BK110.out) hb); have n1_ := Aside0.mk (below_step (by repeat (first | (with_reducible first | exact HB.out | apply below_alloc | apply pw_below_drewN | apply below_drew1 | refine below_set ?_ GE110.out) | exact HB.out)) hb); have n2_ := Aside0.mk (hbox); have n3_ := Aside0.mk ((by rw [hg]; exact (below_size (by repeat (first | (with_reducible first | exact HB.out | apply below_alloc | apply pw_below_drewN | apply below_drew1 | refine below_set ?_ GE110.out) | exact HB.out))) : w.heap.size ≤ gb116)); have n4_ := Aside0.mk ((by rw [hg]; exact (below_size (by repeat (first | (with_reducible first | exact HB.out | apply below_alloc | apply pw_below_drewN | apply below_drew1 | refine below_set ?_ GE110.out) | exact HB.out))) : w.heap.size ≤ gb116)); have n5_ := Aside0.mk ((by rw [hg]; exact Nat.ne_of_lt (blk_lt (g := gb110) (o := .cells #[.int .i64 ((rd_T27 l0 x21_1).f0), .int .i64 ((rd_T27 l0 x21_1).f1), .int .i64 ((rd_T27 l0 x21_1).f2), .int .i64 ((rd_T27 l0 x21_1).f3), .slice A109_4 ((rd_T27 l0 x21_1).f4).length c109_4] 27 (0, 0)) (by (with_reducible repeat (first | refine blk_drewN ?_ _ | refine blk_drew ?_ | refine blk_alloc ?_ _)); exact BK110.out)) : gb110 ≠ gb116)); have n6_ := Aside0.mk ((by rw [hg]; exact Nat.ne_of_gt (blk_lt (g := gb110) (o := .cells #[.int .i64 ((rd_T27 l0 x21_1).f0), .int .i64 ((rd_T27 l0 x21_1).f1), .int .i64 ((rd_T27 l0 x21_1).f2), .int .i64 ((rd_T27 l0 x21_1).f3), .slice A109_4 ((rd_T27 l0 x21_1).f4).length c109_4] 27 (0, 0)) (by (with_reducible repeat (first | refine blk_drewN ?_ _ | refine blk_drew ?_ | refine blk_alloc ?_ _)); exact BK110.out)) : gb116 ≠ gb110)); clear BK110; clear HB; have BK110 := n0_; have HB := n1_; have BK116 := n2_; have GW116 := n3_; have GE116 := n4_; have NB110_116 := n5_; have NB116_110 := n6_; clear n0_ n1_ n2_ n3_ n4_ n5_ n6_; clear hb hbox hg; have hnb54 := NB116_110.out; have hnc54 := NB110_116.out; have hcz55_0 : w53.cell? ⟨gb116, 0, none⟩ = some (.int .i64 0) := (blk_cell BK116.out 0).trans rfl; have hcz55_1 : w53.cell? ⟨gb116, 1, none⟩ = some (.int .i64 0) := (blk_cell BK116.out 1).trans rfl; have hcz55_2 : w53.cell? ⟨gb116, 2, none⟩ = some (.int .i64 0) := (blk_cell BK116.out 2).trans rfl; have hcz55_3 : w53.cell? ⟨gb116, 3, none⟩ = some (.int .i64 0) := (blk_cell BK116.out 3).trans rfl; have hcz55_4 : w53.cell? ⟨gb116, 4, none⟩ = some (.slice none 0 0) := (blk_cell BK116.out 4).trans rfl; have hfz55_0 := blk_frozen BK116.out 0; have hfz55_1 := blk_frozen BK116.out 1; have hfz55_2 := blk_frozen BK116.out 2; have hfz55_3 := blk_frozen BK116.out 3; have hfz55_4 := blk_frozen BK116.out 4; have hcz56_0 : w53.cell? ⟨gb110, 0, none⟩ = some (.int .i64 ((rd_T27 l0 x21_1).f0)) := (blk_cell BK110.out 0).trans rfl; have hcz56_1 : w53.cell? ⟨gb110, 1, none⟩ = some (.int .i64 ((rd_T27 l0 x21_1).f1)) := (blk_cell BK110.out 1).trans rfl; have hcz56_2 : w53.cell? ⟨gb110, 2, none⟩ = some (.int .i64 ((rd_T27 l0 x21_1).f2)) := (blk_cell BK110.out 2).trans rfl; have hcz56_3 : w53.cell? ⟨gb110, 3, none⟩ = some (.int .i64 ((rd_T27 l0 x21_1).f3)) := (blk_cell BK110.out 3).trans rfl; have hcz56_4 : w53.cell? ⟨gb110, 4, none⟩ = some (.slice A109_4 ((rd_T27 l0 x21_1).f4).length c109_4) := (blk_cell BK110.out 4).trans rfl; have hfz56_0 := blk_frozen BK110.out 0; have hfz56_1 := blk_frozen BK110.out 1; have hfz56_2 := blk_frozen BK110.out 2; have hfz56_3 := blk_frozen BK110.out 3; have hfz56_4 := blk_frozen BK110.out 4))
      go_roundg k2
      case measure => have := HK1.out; have := HK2.out; omega
      case rel => exact ⟨(wrap64 (x30_2 + 1)), (by first | rfl | (simp; done) | (simp [*]; done)), H', ⟨by have := HK1.out; have := HK2.out; omega⟩, ⟨by (with_reducible repeat (first | refine blk_drewN ?_ _ | refine blk_drew ?_ | refine blk_alloc ?_ _)); refine blk_far ?_ NB110_116.out _; (with_reducible repeat (first | refine blk_drewN ?_ _ | refine blk_drew ?_ | refine blk_alloc ?_ _)); refine blk_far ?_ NB110_116.out _; (with_reducible repeat (first | refine blk_drewN ?_ _ | refine blk_drew ?_ | refine blk_alloc ?_ _)); refine blk_far ?_ NB110_116.out _; (with_reducible repeat (first | refine blk_drewN ?_ _ | refine blk_drew ?_ | refine blk_alloc ?_ _)); refine blk_far ?_ NB110_116.out _; (with_reducible repeat (first | refine blk_drewN ?_ _ | refine blk_drew ?_ | refine blk_alloc ?_ _)); refine blk_far ?_ NB110_116.out _; (with_reducible repeat (first | refine blk_drewN ?_ _ | refine blk_drew ?_ | refine blk_alloc ?_ _)); exact BK110.out⟩, ⟨by repeat (first | (with_reducible first | exact HB.out | apply below_alloc | apply pw_below_drewN | apply below_drew1 | refine below_set ?_ GE110.out | refine below_set ?_ GE116.out) | exact HB.out)⟩⟩
     rw [if_pos c22] at H
     have c22b0 : (((rd_T27 l0 x21_1).f0) == 3) = true := beq_iff_eq.mpr c22
     have c22b1 : (((rd_T27 l0 x21_1).f0) != 3) = false := bne_eq_false_iff_eq.mpr c22
     clear c22
     by_cases c23 : ((rd_T27 y111 x30_2).f0) = 3
     rotate_left
     ·rw [if_neg c23] at H
      have c23b0 : (((rd_T27 y111 x30_2).f0) == 3) = false := beq_eq_false_iff_ne.mpr c23
      have c23b1 : (((rd_T27 y111 x30_2).f0) != 3) = true := bne_iff_ne.mpr c23
      have H' := Aside0.mk H
      clear H
      have p115 : 0 ≤ (x30_2 : Int) := of_decide_eq_true (by first | (with_reducible assumption) | assumption)
      have q115 : x30_2 < (y111.length : Int) := of_decide_eq_true (by first | (with_reducible assumption) | assumption)
      obtain ⟨ad115, A115_4, c115_4, e115, hx115_0, hx115_1, hx115_2, hx115_3, hx115_4, hl115_4, hi115_4⟩ := at_T27 HR114.out x30_2 p115 q115
      obtain rfl : ad109 = ad115 := (by injection e115)
      replace hx115_0 := (HB.out.cell (World.block_lt_of_cell? w _ hx115_0)).trans hx115_0
      replace hx115_1 := (HB.out.cell (World.block_lt_of_cell? w _ hx115_1)).trans hx115_1
      replace hx115_2 := (HB.out.cell (World.block_lt_of_cell? w _ hx115_2)).trans hx115_2
      replace hx115_3 := (HB.out.cell (World.block_lt_of_cell? w _ hx115_3)).trans hx115_3
      replace hx115_4 := (HB.out.cell (World.block_lt_of_cell? w _ hx115_4)).trans hx115_4
      have HR115_4 := Aside0.mk hi115_4
      have HC115_4 := Aside0.mk hl115_4
      clear hi115_4 hl115_4
      replace p115 := eq_true p115
      replace q115 := eq_true q115
      go_wp2_with (first | ((with_reducible refine gate_dst (N := 8) rfl ?_); refine box_event ?hg (N := 8) ?hd (cs := #[.int .i64 0, .int .i64 0, .int .i64 0, .int .i64 0, .slice none 0 0]) (t := 27) ?hr ?_; (case hd => rfl); (case hg => rfl); (case hr => first | (go_simp; done) | (go_simp; rfl)); intro gb116 hg w49 hbox hb; have n0_ := Aside0.mk (blk_below (g := gb110) (o := .cells #[.int .i64 ((rd_T27 l0 x21_1).f0), .int .i64 ((rd_T27 l0 x21_1).f1), .int .i64 ((rd_T27 l0 x21_1).f2), .int .i64 ((rd_T27 l0 x21_1).f3), .slice A109_4 ((rd_T27 l0 x21_1).f4).length c109_4] 27 (0, 0)) (by (with_reducible repeat (first | refine blk_drewN ?_ _ | refine blk_drew ?_ | refine blk_alloc ?_ _)); exact BK110.out) hb); have n1_ := Aside0.mk (below_step (by repeat (first | (with_reducible first | exact HB.out | apply below_alloc | apply pw_below_drewN | apply below_drew1 | refine below_set ?_ GE110.out) | exact HB.out)) hb); have n2_ := Aside0.mk (hbox); have n3_ := Aside0.mk ((by rw [hg]; exact (below_size (by repeat (first | (with_reducible first | exact HB.out | apply below_alloc | apply pw_below_drewN | apply below_drew1 | refine below_set ?_ GE110.out) | exact HB.out))) : w.heap.size ≤ gb116)); have n4_ := Aside0.mk ((by rw [hg]; exact (below_size (by repeat (first | (with_reducible first | exact HB.out | apply below_alloc | apply pw_below_drewN | apply below_drew1 | refine below_set ?_ GE110.out) | exact HB.out))) : w.heap.size ≤ gb116)); have n5_ := Aside0.mk ((by rw [hg]; exact Nat.ne_of_lt (blk_lt (g := gb110) (o := .cells #[.int .i64 ((rd_T27 l0 x21_1).f0), .int .i64 ((rd_T27 l0 x21_1).f1), .int .i64 ((rd_T27 l0 x21_1).f2), .int .i64 ((rd_T27 l0 x21_1).f3), .slice A109_4 ((rd_T27 l0 x21_1).f4).length c109_4] 27 (0, 0)) (by (with_reducible repeat (first | refine blk_drewN ?_ _ | refine blk_drew ?_ | refine blk_alloc ?_ _)); exact BK110.out)) : gb110 ≠ gb116)); have n6_ := Aside0.mk ((by rw [hg]; exact Nat.ne_of_gt (blk_lt (g := gb110) (o := .cells #[.int .i64 ((rd_T27 l0 x21_1).f0), .int .i64 ((rd_T27 l0 x21_1).f1), .int .i64 ((rd_T27 l0 x21_1).f2), .int .i64 ((rd_T27 l0 x21_1).f3), .slice A109_4 ((rd_T27 l0 x21_1).f4).length c109_4] 27 (0, 0)) (by (with_reducible repeat (first | refine blk_drewN ?_ _ | refine blk_drew ?_ | refine blk_alloc ?_ _)); exact BK110.out)) : gb116 ≠ gb110)); clear BK110; clear HB; have BK110 := n0_; have HB := n1_; have BK116 := n2_; have GW116 := n3_; have GE116 := n4_; have NB110_116 := n5_; have NB116_110 := n6_; clear n0_ n1_ n2_ n3_ n4_ n5_ n6_; clear hb hbox hg; have hnb50 := NB116_110.out; have hnc50 := NB110_116.out; have hcz51_0 : w49.cell? ⟨gb116, 0, none⟩ = some (.int .i64 0) := (blk_cell BK116.out 0).trans rfl; have hcz51_1 : w49.cell? ⟨gb116, 1, none⟩ = some (.int .i64 0) := (blk_cell BK116.out 1).trans rfl; have hcz51_2 : w49.cell? ⟨gb116, 2, none⟩ = some (.int .i64 0) := (blk_cell BK116.out 2).trans rfl; have hcz51_3 : w49.cell? ⟨gb116, 3, none⟩ = some (.int .i64 0) := (blk_cell BK116.out 3).trans rfl; have hcz51_4 : w49.cell? ⟨gb116, 4, none⟩ = some (.slice none 0 0) := (blk_cell BK116.out 4).trans rfl; have hfz51_0 := blk_frozen BK116.out 0; have hfz51_1 := blk_frozen BK116.out 1; have hfz51_2 := blk_frozen BK116.out 2; have hfz51_3 := blk_frozen BK116.out 3; have hfz51_4 := blk_frozen BK116.out 4; have hcz52_0 : w49.cell? ⟨gb110, 0, none⟩ = some (.int .i64 ((rd_T27 l0 x21_1).f0)) := (blk_cell BK110.out 0).trans rfl; have hcz52_1 : w49.cell? ⟨gb110, 1, none⟩ = some (.int .i64 ((rd_T27 l0 x21_1).f1)) := (blk_cell BK110.out 1).trans rfl; have hcz52_2 : w49.cell? ⟨gb110, 2, none⟩ = some (.int .i64 ((rd_T27 l0 x21_1).f2)) := (blk_cell BK110.out 2).trans rfl; have hcz52_3 : w49.cell? ⟨gb110, 3, none⟩ = some (.int .i64 ((rd_T27 l0 x21_1).f3)) := (blk_cell BK110.out 3).trans rfl; have hcz52_4 : w49.cell? ⟨gb110, 4, none⟩ = some (.slice A109_4 ((rd_T27 l0 x21_1).f4).length c109_4) := (blk_cell BK110.out 4).trans rfl; have hfz52_0 := blk_frozen BK110.out 0; have hfz52_1 := blk_frozen BK110.out 1; have hfz52_2 := blk_frozen BK110.out 2; have hfz52_3 := blk_frozen BK110.out 3; have hfz52_4 := blk_frozen BK110.out 4))
      go_roundg k2
      case measure => have := HK1.out; have := HK2.out; omega
      case rel => exact ⟨(wrap64 (x30_2 + 1)), (by first | rfl | (simp; done) | (simp [*]; done)), H', ⟨by have := HK1.out; have := HK2.out; omega⟩, ⟨by (with_reducible repeat (first | refine blk_drewN ?_ _ | refine blk_drew ?_ | refine blk_alloc ?_ _)); refine blk_far ?_ NB110_116.out _; (with_reducible repeat (first | refine blk_drewN ?_ _ | refine blk_drew ?_ | refine blk_alloc ?_ _)); refine blk_far ?_ NB110_116.out _; (with_reducible repeat (first | refine blk_drewN ?_ _ | refine blk_drew ?_ | refine blk_alloc ?_ _)); refine blk_far ?_ NB110_116.out _; (with_reducible repeat (first | refine blk_drewN ?_ _ | refine blk_drew ?_ | refine blk_alloc ?_ _)); refine blk_far ?_ NB110_116.out _; (with_reducible repeat (first | refine blk_drewN ?_ _ | refine blk_drew ?_ | refine blk_alloc ?_ _)); refine blk_far ?_ NB110_116.out _; (with_reducible repeat (first | refine blk_drewN ?_ _ | refine blk_drew ?_ | refine blk_alloc ?_ _)); exact BK110.out⟩, ⟨by repeat (first | (with_reducible first | exact HB.out | apply below_alloc | apply pw_below_drewN | apply below_drew1 | refine below_set ?_ GE110.out | refine below_set ?_ GE116.out) | exact HB.out)⟩⟩
     rw [if_pos c23] at H
     have c23b0 : (((rd_T27 y111 x30_2).f0) == 3) = true := beq_iff_eq.mpr c23
     have c23b1 : (((rd_T27 y111 x30_2).f0) != 3) = false := bne_eq_false_iff_eq.mpr c23
     clear c23
     by_cases c24 : ((rd_T27 l0 x21_1).f3) = ((rd_T27 y111 x30_2).f3)
     rotate_left
     ·rw [if_neg c24] at H
      have c24b0 : (((rd_T27 l0 x21_1).f3) == ((rd_T27 y111 x30_2).f3)) = false := beq_eq_false_iff_ne.mpr c24
      have c24b1 : (((rd_T27 l0 x21_1).f3) != ((rd_T27 y111 x30_2).f3)) = true := bne_iff_ne.mpr c24
      have H' := Aside0.mk H
      clear H
      have p115 : 0 ≤ (x30_2 : Int) := of_decide_eq_true (by first | (with_reducible assumption) | assumption)
      have q115 : x30_2 < (y111.length : Int) := of_decide_eq_true (by first | (with_reducible assumption) | assumption)
      obtain ⟨ad115, A115_4, c115_4, e115, hx115_0, hx115_1, hx115_2, hx115_3, hx115_4, hl115_4, hi115_4⟩ := at_T27 HR114.out x30_2 p115 q115
      obtain rfl : ad109 = ad115 := (by injection e115)
      replace hx115_0 := (HB.out.cell (World.block_lt_of_cell? w _ hx115_0)).trans hx115_0
      replace hx115_1 := (HB.out.cell (World.block_lt_of_cell? w _ hx115_1)).trans hx115_1
      replace hx115_2 := (HB.out.cell (World.block_lt_of_cell? w _ hx115_2)).trans hx115_2
      replace hx115_3 := (HB.out.cell (World.block_lt_of_cell? w _ hx115_3)).trans hx115_3
      replace hx115_4 := (HB.out.cell (World.block_lt_of_cell? w _ hx115_4)).trans hx115_4
      have HR115_4 := Aside0.mk hi115_4
      have HC115_4 := Aside0.mk hl115_4
      clear hi115_4 hl115_4
      replace p115 := eq_true p115
      replace q115 := eq_true q115
      go_wp2_with (first | ((with_reducible refine gate_dst (N := 8) rfl ?_); refine box_event ?hg (N := 8) ?hd (cs := #[.int .i64 0, .int .i64 0, .int .i64 0, .int .i64 0, .slice none 0 0]) (t := 27) ?hr ?_; (case hd => rfl); (case hg => rfl); (case hr => first | (go_simp; done) | (go_simp; rfl)); intro gb116 hg w45 hbox hb; have n0_ := Aside0.mk (blk_below (g := gb110) (o := .cells #[.int .i64 ((rd_T27 l0 x21_1).f0), .int .i64 ((rd_T27 l0 x21_1).f1), .int .i64 ((rd_T27 l0 x21_1).f2), .int .i64 ((rd_T27 l0 x21_1).f3), .slice A109_4 ((rd_T27 l0 x21_1).f4).length c109_4] 27 (0, 0)) (by (with_reducible repeat (first | refine blk_drewN ?_ _ | refine blk_drew ?_ | refine blk_alloc ?_ _)); exact BK110.out) hb); have n1_ := Aside0.mk (below_step (by repeat (first | (with_reducible first | exact HB.out | apply below_alloc | apply pw_below_drewN | apply below_drew1 | refine below_set ?_ GE110.out) | exact HB.out)) hb); have n2_ := Aside0.mk (hbox); have n3_ := Aside0.mk ((by rw [hg]; exact (below_size (by repeat (first | (with_reducible first | exact HB.out | apply below_alloc | apply pw_below_drewN | apply below_drew1 | refine below_set ?_ GE110.out) | exact HB.out))) : w.heap.size ≤ gb116)); have n4_ := Aside0.mk ((by rw [hg]; exact (below_size (by repeat (first | (with_reducible first | exact HB.out | apply below_alloc | apply pw_below_drewN | apply below_drew1 | refine below_set ?_ GE110.out) | exact HB.out))) : w.heap.size ≤ gb116)); have n5_ := Aside0.mk ((by rw [hg]; exact Nat.ne_of_lt (blk_lt (g := gb110) (o := .cells #[.int .i64 ((rd_T27 l0 x21_1).f0), .int .i64 ((rd_T27 l0 x21_1).f1), .int .i64 ((rd_T27 l0 x21_1).f2), .int .i64 ((rd_T27 l0 x21_1).f3), .slice A109_4 ((rd_T27 l0 x21_1).f4).length c109_4] 27 (0, 0)) (by (with_reducible repeat (first | refine blk_drewN ?_ _ | refine blk_drew ?_ | refine blk_alloc ?_ _)); exact BK110.out)) : gb110 ≠ gb116)); have n6_ := Aside0.mk ((by rw [hg]; exact Nat.ne_of_gt (blk_lt (g := gb110) (o := .cells #[.int .i64 ((rd_T27 l0 x21_1).f0), .int .i64 ((rd_T27 l0 x21_1).f1), .int .i64 ((rd_T27 l0 x21_1).f2), .int .i64 ((rd_T27 l0 x21_1).f3), .slice A109_4 ((rd_T27 l0 x21_1).f4).length c109_4] 27 (0, 0)) (by (with_reducible repeat (first | refine blk_drewN ?_ _ | refine blk_drew ?_ | refine blk_alloc ?_ _)); exact BK110.out)) : gb116 ≠ gb110)); clear BK110; clear HB; have BK110 := n0_; have HB := n1_; have BK116 := n2_; have GW116 := n3_; have GE116 := n4_; have NB110_116 := n5_; have NB116_110 := n6_; clear n0_ n1_ n2_ n3_ n4_ n5_ n6_; clear hb hbox hg; have hnb46 := NB116_110.out; have hnc46 := NB110_116.out; have hcz47_0 : w45.cell? ⟨gb116, 0, none⟩ = some (.int .i64 0) := (blk_cell BK116.out 0).trans rfl; have hcz47_1 : w45.cell? ⟨gb116, 1, none⟩ = some (.int .i64 0) := (blk_cell BK116.out 1).trans rfl; have hcz47_2 : w45.cell? ⟨gb116, 2, none⟩ = some (.int .i64 0) := (blk_cell BK116.out 2).trans rfl; have hcz47_3 : w45.cell? ⟨gb116, 3, none⟩ = some (.int .i64 0) := (blk_cell BK116.out 3).trans rfl; have hcz47_4 : w45.cell? ⟨gb116, 4, none⟩ = some (.slice none 0 0) := (blk_cell BK116.out 4).trans rfl; have hfz47_0 := blk_frozen BK116.out 0; have hfz47_1 := blk_frozen BK116.out 1; have hfz47_2 := blk_frozen BK116.out 2; have hfz47_3 := blk_frozen BK116.out 3; have hfz47_4 := blk_frozen BK116.out 4; have hcz48_0 : w45.cell? ⟨gb110, 0, none⟩ = some (.int .i64 ((rd_T27 l0 x21_1).f0)) := (blk_cell BK110.out 0).trans rfl; have hcz48_1 : w45.cell? ⟨gb110, 1, none⟩ = some (.int .i64 ((rd_T27 l0 x21_1).f1)) := (blk_cell BK110.out 1).trans rfl; have hcz48_2 : w45.cell? ⟨gb110, 2, none⟩ = some (.int .i64 ((rd_T27 l0 x21_1).f2)) := (blk_cell BK110.out 2).trans rfl; have hcz48_3 : w45.cell? ⟨gb110, 3, none⟩ = some (.int .i64 ((rd_T27 l0 x21_1).f3)) := (blk_cell BK110.out 3).trans rfl; have hcz48_4 : w45.cell? ⟨gb110, 4, none⟩ = some (.slice A109_4 ((rd_T27 l0 x21_1).f4).length c109_4) := (blk_cell BK110.out 4).trans rfl; have hfz48_0 := blk_frozen BK110.out 0; have hfz48_1 := blk_frozen BK110.out 1; have hfz48_2 := blk_frozen BK110.out 2; have hfz48_3 := blk_frozen BK110.out 3; have hfz48_4 := blk_frozen BK110.out 4))
      go_roundg k2
      case measure => have := HK1.out; have := HK2.out; omega
      case rel => exact ⟨(wrap64 (x30_2 + 1)), (by first | rfl | (simp; done) | (simp [*]; done)), H', ⟨by have := HK1.out; have := HK2.out; omega⟩, ⟨by (with_reducible repeat (first | refine blk_drewN ?_ _ | refine blk_drew ?_ | refine blk_alloc ?_ _)); refine blk_far ?_ NB110_116.out _; (with_reducible repeat (first | refine blk_drewN ?_ _ | refine blk_drew ?_ | refine blk_alloc ?_ _)); refine blk_far ?_ NB110_116.out _; (with_reducible repeat (first | refine blk_drewN ?_ _ | refine blk_drew ?_ | refine blk_alloc ?_ _)); refine blk_far ?_ NB110_116.out _; (with_reducible repeat (first | refine blk_drewN ?_ _ | refine blk_drew ?_ | refine blk_alloc ?_ _)); refine blk_far ?_ NB110_116.out _; (with_reducible repeat (first | refine blk_drewN ?_ _ | refine blk_drew ?_ | refine blk_alloc ?_ _)); refine blk_far ?_ NB110_116.out _; (with_reducible repeat (first | refine blk_drewN ?_ _ | refine blk_drew ?_ | refine blk_alloc ?_ _)); exact BK110.out⟩, ⟨by repeat (first | (with_reducible first | exact HB.out | apply below_alloc | apply pw_below_drewN | apply below_drew1 | refine below_set ?_ GE110.out | refine below_set ?_ GE116.out) | exact HB.out)⟩⟩
     rw [if_pos c24] at H
     have c24b0 : (((rd_T27 l0 x21_1).f3) == ((rd_T27 y111 x30_2).f3)) = true := beq_iff_eq.mpr c24
     have c24b1 : (((rd_T27 l0 x21_1).f3) != ((rd_T27 y111 x30_2).f3)) = false := bne_eq_false_iff_eq.mpr c24
     clear c24
     by_cases c25 : ((rd_T27 l0 x21_1).f1) = ((rd_T27 y111 x30_2).f1)
     ·rw [if_pos c25] at H
      have c25b0 : (((rd_T27 l0 x21_1).f1) == ((rd_T27 y111 x30_2).f1)) = true := beq_iff_eq.mpr c25
      have c25b1 : (((rd_T27 l0 x21_1).f1) != ((rd_T27 y111 x30_2).f1)) = false := bne_eq_false_iff_eq.mpr c25
      clear c25
      have H' := Aside0.mk H
      clear H
      have p115 : 0 ≤ (x30_2 : Int) := of_decide_eq_true (by first | (with_reducible assumption) | assumption)
      have q115 : x30_2 < (y111.length : Int) := of_decide_eq_true (by first | (with_reducible assumption) | assumption)
      obtain ⟨ad115, A115_4, c115_4, e115, hx115_0, hx115_1, hx115_2, hx115_3, hx115_4, hl115_4, hi115_4⟩ := at_T27 HR114.out x30_2 p115 q115
      obtain rfl : ad109 = ad115 := (by injection e115)
      replace hx115_0 := (HB.out.cell (World.block_lt_of_cell? w _ hx115_0)).trans hx115_0
      replace hx115_1 := (HB.out.cell (World.block_lt_of_cell? w _ hx115_1)).trans hx115_1
      replace hx115_2 := (HB.out.cell (World.block_lt_of_cell? w _ hx115_2)).trans hx115_2
      replace hx115_3 := (HB.out.cell (World.block_lt_of_cell? w _ hx115_3)).trans hx115_3
      replace hx115_4 := (HB.out.cell (World.block_lt_of_cell? w _ hx115_4)).trans hx115_4
      have HR115_4 := Aside0.mk hi115_4
      have HC115_4 := Aside0.mk hl115_4
      clear hi115_4 hl115_4
      replace p115 := eq_true p115
      replace q115 := eq_true q115
      go_wp2_with (first | ((with_reducible refine gate_dst (N := 8) rfl ?_); refine box_event ?hg (N := 8) ?hd (cs := #[.int .i64 0, .int .i64 0, .int .i64 0, .int .i64 0, .slice none 0 0]) (t := 27) ?hr ?_; (case hd => rfl); (case hg => rfl); (case hr => first | (go_simp; done) | (go_simp; rfl)); intro gb116 hg w26 hbox hb; have n0_ := Aside0.mk (blk_below (g := gb110) (o := .cells #[.int .i64 ((rd_T27 l0 x21_1).f0), .int .i64 ((rd_T27 l0 x21_1).f1), .int .i64 ((rd_T27 l0 x21_1).f2), .int .i64 ((rd_T27 l0 x21_1).f3), .slice A109_4 ((rd_T27 l0 x21_1).f4).length c109_4] 27 (0, 0)) (by (with_reducible repeat (first | refine blk_drewN ?_ _ | refine blk_drew ?_ | refine blk_alloc ?_ _)); exact BK110.out) hb); have n1_ := Aside0.mk (below_step (by repeat (first | (with_reducible first | exact HB.out | apply below_alloc | apply pw_below_drewN | apply below_drew1 | refine below_set ?_ GE110.out) | exact HB.out)) hb); have n2_ := Aside0.mk (hbox); have n3_ := Aside0.mk ((by rw [hg]; exact (below_size (by repeat (first | (with_reducible first | exact HB.out | apply below_alloc | apply pw_below_drewN | apply below_drew1 | refine below_set ?_ GE110.out) | exact HB.out))) : w.heap.size ≤ gb116)); have n4_ := Aside0.mk ((by rw [hg]; exact (below_size (by repeat (first | (with_reducible first | exact HB.out | apply below_alloc | apply pw_below_drewN | apply below_drew1 | refine below_set ?_ GE110.out) | exact HB.out))) : w.heap.size ≤ gb116)); have n5_ := Aside0.mk ((by rw [hg]; exact Nat.ne_of_lt (blk_lt (g := gb110) (o := .cells #[.int .i64 ((rd_T27 l0 x21_1).f0), .int .i64 ((rd_T27 l0 x21_1).f1), .int .i64 ((rd_T27 l0 x21_1).f2), .int .i64 ((rd_T27 l0 x21_1).f3), .slice A109_4 ((rd_T27 l0 x21_1).f4).length c109_4] 27 (0, 0)) (by (with_reducible repeat (first | refine blk_drewN ?_ _ | refine blk_drew ?_ | refine blk_alloc ?_ _)); exact BK110.out)) : gb110 ≠ gb116)); have n6_ := Aside0.mk ((by rw [hg]; exact Nat.ne_of_gt (blk_lt (g := gb110) (o := .cells #[.int .i64 ((rd_T27 l0 x21_1).f0), .int .i64 ((rd_T27 l0 x21_1).f1), .int .i64 ((rd_T27 l0 x21_1).f2), .int .i64 ((rd_T27 l0 x21_1).f3), .slice A109_4 ((rd_T27 l0 x21_1).f4).length c109_4] 27 (0, 0)) (by (with_reducible repeat (first | refine blk_drewN ?_ _ | refine blk_drew ?_ | refine blk_alloc ?_ _)); exact BK110.out)) : gb116 ≠ gb110)); clear BK110; clear HB; have BK110 := n0_; have HB := n1_; have BK116 := n2_; have GW116 := n3_; have GE116 := n4_; have NB110_116 := n5_; have NB116_110 := n6_; clear n0_ n1_ n2_ n3_ n4_ n5_ n6_; clear hb hbox hg; have hnb27 := NB116_110.out; have hnc27 := NB110_116.out; have hcz28_0 : w26.cell? ⟨gb116, 0, none⟩ = some (.int .i64 0) := (blk_cell BK116.out 0).trans rfl; have hcz28_1 : w26.cell? ⟨gb116, 1, none⟩ = some (.int .i64 0) := (blk_cell BK116.out 1).trans rfl; have hcz28_2 : w26.cell? ⟨gb116, 2, none⟩ = some (.int .i64 0) := (blk_cell BK116.out 2).trans rfl; have hcz28_3 : w26.cell? ⟨gb116, 3, none⟩ = some (.int .i64 0) := (blk_cell BK116.out 3).trans rfl; have hcz28_4 : w26.cell? ⟨gb116, 4, none⟩ = some (.slice none 0 0) := (blk_cell BK116.out 4).trans rfl; have hfz28_0 := blk_frozen BK116.out 0; have hfz28_1 := blk_frozen BK116.out 1; have hfz28_2 := blk_frozen BK116.out 2; have hfz28_3 := blk_frozen BK116.out 3; have hfz28_4 := blk_frozen BK116.out 4; have hcz29_0 : w26.cell? ⟨gb110, 0, none⟩ = some (.int .i64 ((rd_T27 l0 x21_1).f0)) := (blk_cell BK110.out 0).trans rfl; have hcz29_1 : w26.cell? ⟨gb110, 1, none⟩ = some (.int .i64 ((rd_T27 l0 x21_1).f1)) := (blk_cell BK110.out 1).trans rfl; have hcz29_2 : w26.cell? ⟨gb110, 2, none⟩ = some (.int .i64 ((rd_T27 l0 x21_1).f2)) := (blk_cell BK110.out 2).trans rfl; have hcz29_3 : w26.cell? ⟨gb110, 3, none⟩ = some (.int .i64 ((rd_T27 l0 x21_1).f3)) := (blk_cell BK110.out 3).trans rfl; have hcz29_4 : w26.cell? ⟨gb110, 4, none⟩ = some (.slice A109_4 ((rd_T27 l0 x21_1).f4).length c109_4) := (blk_cell BK110.out 4).trans rfl; have hfz29_0 := blk_frozen BK110.out 0; have hfz29_1 := blk_frozen BK110.out 1; have hfz29_2 := blk_frozen BK110.out 2; have hfz29_3 := blk_frozen BK110.out 3; have hfz29_4 := blk_frozen BK110.out 4))
      go_roundg k2
      case measure => have := HK1.out; have := HK2.out; omega
      case rel => exact ⟨(wrap64 (x30_2 + 1)), (by first | rfl | (simp; done) | (simp [*]; done)), H', ⟨by have := HK1.out; have := HK2.out; omega⟩, ⟨by (with_reducible repeat (first | refine blk_drewN ?_ _ | refine blk_drew ?_ | refine blk_alloc ?_ _)); refine blk_far ?_ NB110_116.out _; (with_reducible repeat (first | refine blk_drewN ?_ _ | refine blk_drew ?_ | refine blk_alloc ?_ _)); refine blk_far ?_ NB110_116.out _; (with_reducible repeat (first | refine blk_drewN ?_ _ | refine blk_drew ?_ | refine blk_alloc ?_ _)); refine blk_far ?_ NB110_116.out _; (with_reducible repeat (first | refine blk_drewN ?_ _ | refine blk_drew ?_ | refine blk_alloc ?_ _)); refine blk_far ?_ NB110_116.out _; (with_reducible repeat (first | refine blk_drewN ?_ _ | refine blk_drew ?_ | refine blk_alloc ?_ _)); refine blk_far ?_ NB110_116.out _; (with_reducible repeat (first | refine blk_drewN ?_ _ | refine blk_drew ?_ | refine blk_alloc ?_ _)); exact BK110.out⟩, ⟨by repeat (first | (with_reducible first | exact HB.out | apply below_alloc | apply pw_below_drewN | apply below_drew1 | refine below_set ?_ GE110.out | refine below_set ?_ GE116.out) | exact HB.out)⟩⟩
     rw [if_neg c25] at H
     have c25b0 : (((rd_T27 l0 x21_1).f1) == ((rd_T27 y111 x30_2).f1)) = false := beq_eq_false_iff_ne.mpr c25
     have c25b1 : (((rd_T27 l0 x21_1).f1) != ((rd_T27 y111 x30_2).f1)) = true := bne_iff_ne.mpr c25
     replace H := Option.bind_eq_some_iff.mp H
     obtain ⟨t117, A300, H⟩ := H
     replace H : (if t117 = true then (if t107 = x30_2 then (some (t108 == x21_1)) else (some false)) else (grapevinelaw21_JudgeClashes.l1 k2 l0 t107 t108 x21_1 l0 (l0.length : Int) x21_1 y111 (y111.length : Int) (wrap64 (x30_2 + 1)) ((rd_T27 l0 x21_1).f0) ((rd_T27 l0 x21_1).f1) ((rd_T27 l0 x21_1).f2) ((rd_T27 l0 x21_1).f3) ((rd_T27 l0 x21_1).f4))) = some r := H
     have A30 := Aside0.mk A300
     clear A300
     by_cases c31 : t117 = true
     rotate_left
     ·replace c31 := Bool.eq_false_iff.mpr c31
      subst c31
      have H1 : (grapevinelaw21_JudgeClashes.l1 k2 l0 t107 t108 x21_1 l0 (l0.length : Int) x21_1 y111 (y111.length : Int) (wrap64 (x30_2 + 1)) ((rd_T27 l0 x21_1).f0) ((rd_T27 l0 x21_1).f1) ((rd_T27 l0 x21_1).f2) ((rd_T27 l0 x21_1).f3) ((rd_T27 l0 x21_1).f4)) = some r := by rw [if_neg (show ¬ (false = true) by decide)] at H; exact H
      clear H
      have H := H1
      clear H1
      have H' := Aside0.mk H
      clear H
      have p115 : 0 ≤ (x30_2 : Int) := of_decide_eq_true (by first | (with_reducible assumption) | assumption)
      have q115 : x30_2 < (y111.length : Int) := of_decide_eq_true (by first | (with_reducible assumption) | assumption)
      obtain ⟨ad115, A115_4, c115_4, e115, hx115_0, hx115_1, hx115_2, hx115_3, hx115_4, hl115_4, hi115_4⟩ := at_T27 HR114.out x30_2 p115 q115
      obtain rfl : ad109 = ad115 := (by injection e115)
      replace hx115_0 := (HB.out.cell (World.block_lt_of_cell? w _ hx115_0)).trans hx115_0
      replace hx115_1 := (HB.out.cell (World.block_lt_of_cell? w _ hx115_1)).trans hx115_1
      replace hx115_2 := (HB.out.cell (World.block_lt_of_cell? w _ hx115_2)).trans hx115_2
      replace hx115_3 := (HB.out.cell (World.block_lt_of_cell? w _ hx115_3)).trans hx115_3
      replace hx115_4 := (HB.out.cell (World.block_lt_of_cell? w _ hx115_4)).trans hx115_4
      have HR115_4 := Aside0.mk hi115_4
      have HC115_4 := Aside0.mk hl115_4
      clear hi115_4 hl115_4
      replace p115 := eq_true p115
      replace q115 := eq_true q115
      go_wp2_with (first | ((with_reducible refine gate_dst (N := 8) rfl ?_); refine box_event ?hg (N := 8) ?hd (cs := #[.int .i64 0, .int .i64 0, .int .i64 0, .int .i64 0, .slice none 0 0]) (t := 27) ?hr ?_; (case hd => rfl); (case hg => rfl); (case hr => first | (go_simp; done) | (go_simp; rfl)); intro gb116 hg w41 hbox hb; have n0_ := Aside0.mk (blk_below (g := gb110) (o := .cells #[.int .i64 ((rd_T27 l0 x21_1).f0), .int .i64 ((rd_T27 l0 x21_1).f1), .int .i64 ((rd_T27 l0 x21_1).f2), .int .i64 ((rd_T27 l0 x21_1).f3), .slice A109_4 ((rd_T27 l0 x21_1).f4).length c109_4] 27 (0, 0)) (by (with_reducible repeat (first | refine blk_drewN ?_ _ | refine blk_drew ?_ | refine blk_alloc ?_ _)); exact BK110.out) hb); have n1_ := Aside0.mk (below_step (by repeat (first | (with_reducible first | exact HB.out | apply below_alloc | apply pw_below_drewN | apply below_drew1 | refine below_set ?_ GE110.out) | exact HB.out)) hb); have n2_ := Aside0.mk (hbox); have n3_ := Aside0.mk ((by rw [hg]; exact (below_size (by repeat (first | (with_reducible first | exact HB.out | apply below_alloc | apply pw_below_drewN | apply below_drew1 | refine below_set ?_ GE110.out) | exact HB.out))) : w.heap.size ≤ gb116)); have n4_ := Aside0.mk ((by rw [hg]; exact (below_size (by repeat (first | (with_reducible first | exact HB.out | apply below_alloc | apply pw_below_drewN | apply below_drew1 | refine below_set ?_ GE110.out) | exact HB.out))) : w.heap.size ≤ gb116)); have n5_ := Aside0.mk ((by rw [hg]; exact Nat.ne_of_lt (blk_lt (g := gb110) (o := .cells #[.int .i64 ((rd_T27 l0 x21_1).f0), .int .i64 ((rd_T27 l0 x21_1).f1), .int .i64 ((rd_T27 l0 x21_1).f2), .int .i64 ((rd_T27 l0 x21_1).f3), .slice A109_4 ((rd_T27 l0 x21_1).f4).length c109_4] 27 (0, 0)) (by (with_reducible repeat (first | refine blk_drewN ?_ _ | refine blk_drew ?_ | refine blk_alloc ?_ _)); exact BK110.out)) : gb110 ≠ gb116)); have n6_ := Aside0.mk ((by rw [hg]; exact Nat.ne_of_gt (blk_lt (g := gb110) (o := .cells #[.int .i64 ((rd_T27 l0 x21_1).f0), .int .i64 ((rd_T27 l0 x21_1).f1), .int .i64 ((rd_T27 l0 x21_1).f2), .int .i64 ((rd_T27 l0 x21_1).f3), .slice A109_4 ((rd_T27 l0 x21_1).f4).length c109_4] 27 (0, 0)) (by (with_reducible repeat (first | refine blk_drewN ?_ _ | refine blk_drew ?_ | refine blk_alloc ?_ _)); exact BK110.out)) : gb116 ≠ gb110)); clear BK110; clear HB; have BK110 := n0_; have HB := n1_; have BK116 := n2_; have GW116 := n3_; have GE116 := n4_; have NB110_116 := n5_; have NB116_110 := n6_; clear n0_ n1_ n2_ n3_ n4_ n5_ n6_; clear hb hbox hg; have hnb42 := NB116_110.out; have hnc42 := NB110_116.out; have hcz43_0 : w41.cell? ⟨gb116, 0, none⟩ = some (.int .i64 0) := (blk_cell BK116.out 0).trans rfl; have hcz43_1 : w41.cell? ⟨gb116, 1, none⟩ = some (.int .i64 0) := (blk_cell BK116.out 1).trans rfl; have hcz43_2 : w41.cell? ⟨gb116, 2, none⟩ = some (.int .i64 0) := (blk_cell BK116.out 2).trans rfl; have hcz43_3 : w41.cell? ⟨gb116, 3, none⟩ = some (.int .i64 0) := (blk_cell BK116.out 3).trans rfl; have hcz43_4 : w41.cell? ⟨gb116, 4, none⟩ = some (.slice none 0 0) := (blk_cell BK116.out 4).trans rfl; have hfz43_0 := blk_frozen BK116.out 0; have hfz43_1 := blk_frozen BK116.out 1; have hfz43_2 := blk_frozen BK116.out 2; have hfz43_3 := blk_frozen BK116.out 3; have hfz43_4 := blk_frozen BK116.out 4; have hcz44_0 : w41.cell? ⟨gb110, 0, none⟩ = some (.int .i64 ((rd_T27 l0 x21_1).f0)) := (blk_cell BK110.out 0).trans rfl; have hcz44_1 : w41.cell? ⟨gb110, 1, none⟩ = some (.int .i64 ((rd_T27 l0 x21_1).f1)) := (blk_cell BK110.out 1).trans rfl; have hcz44_2 : w41.cell? ⟨gb110, 2, none⟩ = some (.int .i64 ((rd_T27 l0 x21_1).f2)) := (blk_cell BK110.out 2).trans rfl; have hcz44_3 : w41.cell? ⟨gb110, 3, none⟩ = some (.int .i64 ((rd_T27 l0 x21_1).f3)) := (blk_cell BK110.out 3).trans rfl; have hcz44_4 : w41.cell? ⟨gb110, 4, none⟩ = some (.slice A109_4 ((rd_T27 l0 x21_1).f4).length c109_4) := (blk_cell BK110.out 4).trans rfl; have hfz44_0 := blk_frozen BK110.out 0; have hfz44_1 := blk_frozen BK110.out 1; have hfz44_2 := blk_frozen BK110.out 2; have hfz44_3 := blk_frozen BK110.out 3; have hfz44_4 := blk_frozen BK110.out 4) | (go_at_call 13; (with_reducible refine (grapevinemade_Ints.calls k2 _ _ ((rd_T27 l0 x21_1).f4) _ _ ((rd_T27 y111 x30_2).f4) false _ ?side1 ?side2 ?side3 ?side4 A30.out).mono ?_); (case side1 => exact Kd.C_below HR109_4.out (by repeat (first | (with_reducible first | exact HB.out | apply below_alloc | apply pw_below_drewN | apply below_drew1 | refine below_set ?_ GE110.out | refine below_set ?_ GE116.out) | exact HB.out))); (case side2 => exact HC109_4.out); (case side3 => exact Kd.C_below HR115_4.out (by repeat (first | (with_reducible first | exact HB.out | apply below_alloc | apply pw_below_drewN | apply below_drew1 | refine below_set ?_ GE110.out | refine below_set ?_ GE116.out) | exact HB.out))); (case side4 => exact HC115_4.out); rintro e w' ⟨rfl, ⟨nd, rfl⟩⟩))
      go_roundg k2
      case measure => have := HK1.out; have := HK2.out; omega
      case rel => exact ⟨(wrap64 (x30_2 + 1)), (by first | rfl | (simp; done) | (simp [*]; done)), H', ⟨by have := HK1.out; have := HK2.out; omega⟩, ⟨by (with_reducible repeat (first | refine blk_drewN ?_ _ | refine blk_drew ?_ | refine blk_alloc ?_ _)); refine blk_far ?_ NB110_116.out _; (with_reducible repeat (first | refine blk_drewN ?_ _ | refine blk_drew ?_ | refine blk_alloc ?_ _)); refine blk_far ?_ NB110_116.out _; (with_reducible repeat (first | refine blk_drewN ?_ _ | refine blk_drew ?_ | refine blk_alloc ?_ _)); refine blk_far ?_ NB110_116.out _; (with_reducible repeat (first | refine blk_drewN ?_ _ | refine blk_drew ?_ | refine blk_alloc ?_ _)); refine blk_far ?_ NB110_116.out _; (with_reducible repeat (first | refine blk_drewN ?_ _ | refine blk_drew ?_ | refine blk_alloc ?_ _)); refine blk_far ?_ NB110_116.out _; (with_reducible repeat (first | refine blk_drewN ?_ _ | refine blk_drew ?_ | refine blk_alloc ?_ _)); exact BK110.out⟩, ⟨by repeat (first | (with_reducible first | exact HB.out | apply below_alloc | apply pw_below_drewN | apply below_drew1 | refine below_set ?_ GE110.out | refine below_set ?_ GE116.out) | exact HB.out)⟩⟩
     subst c31
     have H1 : (if t107 = x30_2 then (some (t108 == x21_1)) else (some false)) = some r := by rw [if_pos rfl] at H; exact H
     clear H
     have H := H1
     clear H1
     by_cases c32 : t107 = x30_2
     rotate_left
     ·rw [if_neg c32] at H
      have c32b0 : (t107 == x30_2) = false := beq_eq_false_iff_ne.mpr c32
      have c32b1 : (t107 != x30_2) = true := bne_iff_ne.mpr c32
      obtain rfl := Option.some.inj H
      have p115 : 0 ≤ (x30_2 : Int) := of_decide_eq_true (by first | (with_reducible assumption) | assumption)
      have q115 : x30_2 < (y111.length : Int) := of_decide_eq_true (by first | (with_reducible assumption) | assumption)
      obtain ⟨ad115, A115_4, c115_4, e115, hx115_0, hx115_1, hx115_2, hx115_3, hx115_4, hl115_4, hi115_4⟩ := at_T27 HR114.out x30_2 p115 q115
      obtain rfl : ad109 = ad115 := (by injection e115)
      replace hx115_0 := (HB.out.cell (World.block_lt_of_cell? w _ hx115_0)).trans hx115_0
      replace hx115_1 := (HB.out.cell (World.block_lt_of_cell? w _ hx115_1)).trans hx115_1
      replace hx115_2 := (HB.out.cell (World.block_lt_of_cell? w _ hx115_2)).trans hx115_2
      replace hx115_3 := (HB.out.cell (World.block_lt_of_cell? w _ hx115_3)).trans hx115_3
      replace hx115_4 := (HB.out.cell (World.block_lt_of_cell? w _ hx115_4)).trans hx115_4
      have HR115_4 := Aside0.mk hi115_4
      have HC115_4 := Aside0.mk hl115_4
      clear hi115_4 hl115_4
      replace p115 := eq_true p115
      replace q115 := eq_true q115
      go_wp2_with (first | ((with_reducible refine gate_dst (N := 8) rfl ?_); refine box_event ?hg (N := 8) ?hd (cs := #[.int .i64 0, .int .i64 0, .int .i64 0, .int .i64 0, .slice none 0 0]) (t := 27) ?hr ?_; (case hd => rfl); (case hg => rfl); (case hr => first | (go_simp; done) | (go_simp; rfl)); intro gb116 hg w37 hbox hb; have n0_ := Aside0.mk (blk_below (g := gb110) (o := .cells #[.int .i64 ((rd_T27 l0 x21_1).f0), .int .i64 ((rd_T27 l0 x21_1).f1), .int .i64 ((rd_T27 l0 x21_1).f2), .int .i64 ((rd_T27 l0 x21_1).f3), .slice A109_4 ((rd_T27 l0 x21_1).f4).length c109_4] 27 (0, 0)) (by (with_reducible repeat (first | refine blk_drewN ?_ _ | refine blk_drew ?_ | refine blk_alloc ?_ _)); exact BK110.out) hb); have n1_ := Aside0.mk (below_step (by repeat (first | (with_reducible first | exact HB.out | apply below_alloc | apply pw_below_drewN | apply below_drew1 | refine below_set ?_ GE110.out) | exact HB.out)) hb); have n2_ := Aside0.mk (hbox); have n3_ := Aside0.mk ((by rw [hg]; exact (below_size (by repeat (first | (with_reducible first | exact HB.out | apply below_alloc | apply pw_below_drewN | apply below_drew1 | refine below_set ?_ GE110.out) | exact HB.out))) : w.heap.size ≤ gb116)); have n4_ := Aside0.mk ((by rw [hg]; exact (below_size (by repeat (first | (with_reducible first | exact HB.out | apply below_alloc | apply pw_below_drewN | apply below_drew1 | refine below_set ?_ GE110.out) | exact HB.out))) : w.heap.size ≤ gb116)); have n5_ := Aside0.mk ((by rw [hg]; exact Nat.ne_of_lt (blk_lt (g := gb110) (o := .cells #[.int .i64 ((rd_T27 l0 x21_1).f0), .int .i64 ((rd_T27 l0 x21_1).f1), .int .i64 ((rd_T27 l0 x21_1).f2), .int .i64 ((rd_T27 l0 x21_1).f3), .slice A109_4 ((rd_T27 l0 x21_1).f4).length c109_4] 27 (0, 0)) (by (with_reducible repeat (first | refine blk_drewN ?_ _ | refine blk_drew ?_ | refine blk_alloc ?_ _)); exact BK110.out)) : gb110 ≠ gb116)); have n6_ := Aside0.mk ((by rw [hg]; exact Nat.ne_of_gt (blk_lt (g := gb110) (o := .cells #[.int .i64 ((rd_T27 l0 x21_1).f0), .int .i64 ((rd_T27 l0 x21_1).f1), .int .i64 ((rd_T27 l0 x21_1).f2), .int .i64 ((rd_T27 l0 x21_1).f3), .slice A109_4 ((rd_T27 l0 x21_1).f4).length c109_4] 27 (0, 0)) (by (with_reducible repeat (first | refine blk_drewN ?_ _ | refine blk_drew ?_ | refine blk_alloc ?_ _)); exact BK110.out)) : gb116 ≠ gb110)); clear BK110; clear HB; have BK110 := n0_; have HB := n1_; have BK116 := n2_; have GW116 := n3_; have GE116 := n4_; have NB110_116 := n5_; have NB116_110 := n6_; clear n0_ n1_ n2_ n3_ n4_ n5_ n6_; clear hb hbox hg; have hnb38 := NB116_110.out; have hnc38 := NB110_116.out; have hcz39_0 : w37.cell? ⟨gb116, 0, none⟩ = some (.int .i64 0) := (blk_cell BK116.out 0).trans rfl; have hcz39_1 : w37.cell? ⟨gb116, 1, none⟩ = some (.int .i64 0) := (blk_cell BK116.out 1).trans rfl; have hcz39_2 : w37.cell? ⟨gb116, 2, none⟩ = some (.int .i64 0) := (blk_cell BK116.out 2).trans rfl; have hcz39_3 : w37.cell? ⟨gb116, 3, none⟩ = some (.int .i64 0) := (blk_cell BK116.out 3).trans rfl; have hcz39_4 : w37.cell? ⟨gb116, 4, none⟩ = some (.slice none 0 0) := (blk_cell BK116.out 4).trans rfl; have hfz39_0 := blk_frozen BK116.out 0; have hfz39_1 := blk_frozen BK116.out 1; have hfz39_2 := blk_frozen BK116.out 2; have hfz39_3 := blk_frozen BK116.out 3; have hfz39_4 := blk_frozen BK116.out 4; have hcz40_0 : w37.cell? ⟨gb110, 0, none⟩ = some (.int .i64 ((rd_T27 l0 x21_1).f0)) := (blk_cell BK110.out 0).trans rfl; have hcz40_1 : w37.cell? ⟨gb110, 1, none⟩ = some (.int .i64 ((rd_T27 l0 x21_1).f1)) := (blk_cell BK110.out 1).trans rfl; have hcz40_2 : w37.cell? ⟨gb110, 2, none⟩ = some (.int .i64 ((rd_T27 l0 x21_1).f2)) := (blk_cell BK110.out 2).trans rfl; have hcz40_3 : w37.cell? ⟨gb110, 3, none⟩ = some (.int .i64 ((rd_T27 l0 x21_1).f3)) := (blk_cell BK110.out 3).trans rfl; have hcz40_4 : w37.cell? ⟨gb110, 4, none⟩ = some (.slice A109_4 ((rd_T27 l0 x21_1).f4).length c109_4) := (blk_cell BK110.out 4).trans rfl; have hfz40_0 := blk_frozen BK110.out 0; have hfz40_1 := blk_frozen BK110.out 1; have hfz40_2 := blk_frozen BK110.out 2; have hfz40_3 := blk_frozen BK110.out 3; have hfz40_4 := blk_frozen BK110.out 4) | (go_at_call 13; (with_reducible refine (grapevinemade_Ints.calls k2 _ _ ((rd_T27 l0 x21_1).f4) _ _ ((rd_T27 y111 x30_2).f4) true _ ?side1 ?side2 ?side3 ?side4 A30.out).mono ?_); (case side1 => exact Kd.C_below HR109_4.out (by repeat (first | (with_reducible first | exact HB.out | apply below_alloc | apply pw_below_drewN | apply below_drew1 | refine below_set ?_ GE110.out | refine below_set ?_ GE116.out) | exact HB.out))); (case side2 => exact HC109_4.out); (case side3 => exact Kd.C_below HR115_4.out (by repeat (first | (with_reducible first | exact HB.out | apply below_alloc | apply pw_below_drewN | apply below_drew1 | refine below_set ?_ GE110.out | refine below_set ?_ GE116.out) | exact HB.out))); (case side4 => exact HC115_4.out); rintro e w' ⟨rfl, ⟨nd, rfl⟩⟩))
      go_ret
      exact ⟨by first | rfl | (simp [errW_none, errW_some] <;> rfl) | (simp [*, errW_none, errW_some] <;> rfl), by repeat (first | (with_reducible first | exact HB.out | apply below_alloc | apply pw_below_drewN | apply below_drew1 | refine below_set ?_ GE110.out | refine below_set ?_ GE116.out) | exact HB.out)⟩
     rw [if_pos c32] at H
     have c32b0 : (t107 == x30_2) = true := beq_iff_eq.mpr c32
     have c32b1 : (t107 != x30_2) = false := bne_eq_false_iff_eq.mpr c32
     clear c32
     obtain rfl := Option.some.inj H
     have p115 : 0 ≤ (x30_2 : Int) := of_decide_eq_true (by first | (with_reducible assumption) | assumption)
     have q115 : x30_2 < (y111.length : Int) := of_decide_eq_true (by first | (with_reducible assumption) | assumption)
     obtain ⟨ad115, A115_4, c115_4, e115, hx115_0, hx115_1, hx115_2, hx115_3, hx115_4, hl115_4, hi115_4⟩ := at_T27 HR114.out x30_2 p115 q115
     obtain rfl : ad109 = ad115 := (by injection e115)
     replace hx115_0 := (HB.out.cell (World.block_lt_of_cell? w _ hx115_0)).trans hx115_0
     replace hx115_1 := (HB.out.cell (World.block_lt_of_cell? w _ hx115_1)).trans hx115_1
     replace hx115_2 := (HB.out.cell (World.block_lt_of_cell? w _ hx115_2)).trans hx115_2
     replace hx115_3 := (HB.out.cell (World.block_lt_of_cell? w _ hx115_3)).trans hx115_3
     replace hx115_4 := (HB.out.cell (World.block_lt_of_cell? w _ hx115_4)).trans hx115_4
     have HR115_4 := Aside0.mk hi115_4
     have HC115_4 := Aside0.mk hl115_4
     clear hi115_4 hl115_4
     replace p115 := eq_true p115
     replace q115 := eq_true q115
     go_wp2_with (first | ((with_reducible refine gate_dst (N := 8) rfl ?_); refine box_event ?hg (N := 8) ?hd (cs := #[.int .i64 0, .int .i64 0, .int .i64 0, .int .i64 0, .slice none 0 0]) (t := 27) ?hr ?_; (case hd => rfl); (case hg => rfl); (case hr => first | (go_simp; done) | (go_simp; rfl)); intro gb116 hg w33 hbox hb; have n0_ := Aside0.mk (blk_below (g := gb110) (o := .cells #[.int .i64 ((rd_T27 l0 x21_1).f0), .int .i64 ((rd_T27 l0 x21_1).f1), .int .i64 ((rd_T27 l0 x21_1).f2), .int .i64 ((rd_T27 l0 x21_1).f3), .slice A109_4 ((rd_T27 l0 x21_1).f4).length c109_4] 27 (0, 0)) (by (with_reducible repeat (first | refine blk_drewN ?_ _ | refine blk_drew ?_ | refine blk_alloc ?_ _)); exact BK110.out) hb); have n1_ := Aside0.mk (below_step (by repeat (first | (with_reducible first | exact HB.out | apply below_alloc | apply pw_below_drewN | apply below_drew1 | refine below_set ?_ GE110.out) | exact HB.out)) hb); have n2_ := Aside0.mk (hbox); have n3_ := Aside0.mk ((by rw [hg]; exact (below_size (by repeat (first | (with_reducible first | exact HB.out | apply below_alloc | apply pw_below_drewN | apply below_drew1 | refine below_set ?_ GE110.out) | exact HB.out))) : w.heap.size ≤ gb116)); have n4_ := Aside0.mk ((by rw [hg]; exact (below_size (by repeat (first | (with_reducible first | exact HB.out | apply below_alloc | apply pw_below_drewN | apply below_drew1 | refine below_set ?_ GE110.out) | exact HB.out))) : w.heap.size ≤ gb116)); have n5_ := Aside0.mk ((by rw [hg]; exact Nat.ne_of_lt (blk_lt (g := gb110) (o := .cells #[.int .i64 ((rd_T27 l0 x21_1).f0), .int .i64 ((rd_T27 l0 x21_1).f1), .int .i64 ((rd_T27 l0 x21_1).f2), .int .i64 ((rd_T27 l0 x21_1).f3), .slice A109_4 ((rd_T27 l0 x21_1).f4).length c109_4] 27 (0, 0)) (by (with_reducible repeat (first | refine blk_drewN ?_ _ | refine blk_drew ?_ | refine blk_alloc ?_ _)); exact BK110.out)) : gb110 ≠ gb116)); have n6_ := Aside0.mk ((by rw [hg]; exact Nat.ne_of_gt (blk_lt (g := gb110) (o := .cells #[.int .i64 ((rd_T27 l0 x21_1).f0), .int .i64 ((rd_T27 l0 x21_1).f1), .int .i64 ((rd_T27 l0 x21_1).f2), .int .i64 ((rd_T27 l0 x21_1).f3), .slice A109_4 ((rd_T27 l0 x21_1).f4).length c109_4] 27 (0, 0)) (by (with_reducible repeat (first | refine blk_drewN ?_ _ | refine blk_drew ?_ | refine blk_alloc ?_ _)); exact BK110.out)) : gb116 ≠ gb110)); clear BK110; clear HB; have BK110 := n0_; have HB := n1_; have BK116 := n2_; have GW116 := n3_; have GE116 := n4_; have NB110_116 := n5_; have NB116_110 := n6_; clear n0_ n1_ n2_ n3_ n4_ n5_ n6_; clear hb hbox hg; have hnb34 := NB116_110.out; have hnc34 := NB110_116.out; have hcz35_0 : w33.cell? ⟨gb116, 0, none⟩ = some (.int .i64 0) := (blk_cell BK116.out 0).trans rfl; have hcz35_1 : w33.cell? ⟨gb116, 1, none⟩ = some (.int .i64 0) := (blk_cell BK116.out 1).trans rfl; have hcz35_2 : w33.cell? ⟨gb116, 2, none⟩ = some (.int .i64 0) := (blk_cell BK116.out 2).trans rfl; have hcz35_3 : w33.cell? ⟨gb116, 3, none⟩ = some (.int .i64 0) := (blk_cell BK116.out 3).trans rfl; have hcz35_4 : w33.cell? ⟨gb116, 4, none⟩ = some (.slice none 0 0) := (blk_cell BK116.out 4).trans rfl; have hfz35_0 := blk_frozen BK116.out 0; have hfz35_1 := blk_frozen BK116.out 1; have hfz35_2 := blk_frozen BK116.out 2; have hfz35_3 := blk_frozen BK116.out 3; have hfz35_4 := blk_frozen BK116.out 4; have hcz36_0 : w33.cell? ⟨gb110, 0, none⟩ = some (.int .i64 ((rd_T27 l0 x21_1).f0)) := (blk_cell BK110.out 0).trans rfl; have hcz36_1 : w33.cell? ⟨gb110, 1, none⟩ = some (.int .i64 ((rd_T27 l0 x21_1).f1)) := (blk_cell BK110.out 1).trans rfl; have hcz36_2 : w33.cell? ⟨gb110, 2, none⟩ = some (.int .i64 ((rd_T27 l0 x21_1).f2)) := (blk_cell BK110.out 2).trans rfl; have hcz36_3 : w33.cell? ⟨gb110, 3, none⟩ = some (.int .i64 ((rd_T27 l0 x21_1).f3)) := (blk_cell BK110.out 3).trans rfl; have hcz36_4 : w33.cell? ⟨gb110, 4, none⟩ = some (.slice A109_4 ((rd_T27 l0 x21_1).f4).length c109_4) := (blk_cell BK110.out 4).trans rfl; have hfz36_0 := blk_frozen BK110.out 0; have hfz36_1 := blk_frozen BK110.out 1; have hfz36_2 := blk_frozen BK110.out 2; have hfz36_3 := blk_frozen BK110.out 3; have hfz36_4 := blk_frozen BK110.out 4) | (go_at_call 13; (with_reducible refine (grapevinemade_Ints.calls k2 _ _ ((rd_T27 l0 x21_1).f4) _ _ ((rd_T27 y111 x30_2).f4) true _ ?side1 ?side2 ?side3 ?side4 A30.out).mono ?_); (case side1 => exact Kd.C_below HR109_4.out (by repeat (first | (with_reducible first | exact HB.out | apply below_alloc | apply pw_below_drewN | apply below_drew1 | refine below_set ?_ GE110.out | refine below_set ?_ GE116.out) | exact HB.out))); (case side2 => exact HC109_4.out); (case side3 => exact Kd.C_below HR115_4.out (by repeat (first | (with_reducible first | exact HB.out | apply below_alloc | apply pw_below_drewN | apply below_drew1 | refine below_set ?_ GE110.out | refine below_set ?_ GE116.out) | exact HB.out))); (case side4 => exact HC115_4.out); rintro e w' ⟨rfl, ⟨nd, rfl⟩⟩))
     go_ret
     exact ⟨by first | rfl | (simp [errW_none, errW_some] <;> rfl) | (simp [*, errW_none, errW_some] <;> rfl), by repeat (first | (with_reducible first | exact HB.out | apply below_alloc | apply pw_below_drewN | apply below_drew1 | refine below_set ?_ GE110.out | refine below_set ?_ GE116.out) | exact HB.out)⟩
end Go.Proofs.Ytcpiccgnaecdkaa.QJudgeClashes
