/- The rows that meter's laws are given: whole numbers, and acts. -/
import Derived.Test.YtblibjnhldocaaaHandA
import Derived.Test.YtblibjnhldocaaaOwnMeterApart
namespace Go.Proofs.Ytblibjnhldocaaa.HandM
open Go.RowKit
def Ints (w : World) (a : Option Addr) (len : Nat) (l : List Int) : Prop :=
  l.length = len ∧ len ≤ 9223372036854775807 ∧ (0 < len → ∃ ad, a = some ad ∧ ∀ i, i < len → w.cell? (ad.add i) = some (.int .i64 (l.getD i 0)))
theorem Ints.at {w : World} {a : Option Addr} {len : Nat} {l : List Int} (h : Ints w a len l) {i : Nat} (hi : i < len) : ∃ ad, a = some ad ∧ w.cell? (ad.add i) = some (.int .i64 (l.getD i 0)) := by
  obtain ⟨ad, h1, h2⟩ := h.2.2 (by omega)
  exact ⟨ad, h1, h2 i hi⟩
theorem add_field (ad : Addr) (m j : Nat) (hj : 0 < j) : ad.add (m + j) = ⟨(ad.add m).block, (ad.add m).off + j, none⟩ := by
  unfold Addr.add
  rw [if_neg (by omega)]
  split
  · simp_all
  · simp; omega
structure ActT where
  how : Int
  kind : Int
  n : Int
def Acts (w : World) (a : Option Addr) (len : Nat) (l : List ActT) : Prop :=
  l.length = len ∧ len ≤ 9223372036854775807 ∧ (0 < len → ∃ ad, a = some ad ∧ ∀ i, i < len → w.cell? (ad.add (i * 3 + 0)) = some (.int .i64 (l.getD i ⟨0, 0, 0⟩).how) ∧ w.cell? (ad.add (i * 3 + 1)) = some (.int .i64 (l.getD i ⟨0, 0, 0⟩).kind) ∧ w.cell? (ad.add (i * 3 + 2)) = some (.int .i64 (l.getD i ⟨0, 0, 0⟩).n))
theorem Acts.at {w : World} {a : Option Addr} {len : Nat} {l : List ActT} (h : Acts w a len l) {i : Nat} (hi : i < len) : ∃ ad, a = some ad ∧ w.cell? (ad.add (i * 3)) = some (.int .i64 (l.getD i ⟨0, 0, 0⟩).how) ∧ w.cell? ⟨(ad.add (i * 3)).block, (ad.add (i * 3)).off + 1, none⟩ = some (.int .i64 (l.getD i ⟨0, 0, 0⟩).kind) ∧ w.cell? ⟨(ad.add (i * 3)).block, (ad.add (i * 3)).off + 2, none⟩ = some (.int .i64 (l.getD i ⟨0, 0, 0⟩).n) := by
  obtain ⟨ad, h1, h2⟩ := h.2.2 (by omega)
  obtain ⟨c0, c1, c2⟩ := h2 i hi
  exact ⟨ad, h1, c0, by rw [← add_field _ _ 1 (by omega)]; exact c1, by rw [← add_field _ _ 2 (by omega)]; exact c2⟩
end Go.Proofs.Ytblibjnhldocaaa.HandM
