import Derived.Test.YtegckjbjbodhhaaPWx11
import Derived.Test.YtegckjbjbodhhaaPWx12
import Derived.Test.YtegckjbjbodhhaaWeaveIter
/- How many ways there are: by both countings. -/
namespace Go.Proofs.Ytegckjbjbodhhaa.Weave
open Go.RowKit Go.Proofs.YtegckjbjbodhhaaW.PrintWords
def binom : Nat → Nat → Nat
  | _, 0 => 1
  | 0, _ + 1 => 0
  | n + 1, k + 1 => binom n k + binom n (k + 1)
theorem binom_zero (k : Nat) (h : 0 < k) : binom 0 k = 0 := by
  cases k with
  | zero => omega
  | succ k => rfl
theorem binom_none (n : Nat) : binom n 0 = 1 := by cases n <;> rfl
theorem binom_over : ∀ n k, n < k → binom n k = 0
  | 0, k, h => binom_zero k h
  | n + 1, 0, h => by omega
  | n + 1, k + 1, h => by rw [binom, binom_over n k (by omega), binom_over n (k + 1) (by omega)]
theorem binom_full : ∀ n, binom n n = 1
  | 0 => rfl
  | n + 1 => by rw [binom, binom_full n, binom_over n (n + 1) (by omega)]
theorem ways_binom : ∀ n m, (ways n m).length = binom (n + m) m
  | 0, 0 => by simp [ways, binom]
  | n + 1, 0 => by rw [ways, List.length_map, ways_binom n 0, binom_none, binom_none]
  | 0, m + 1 => by rw [ways, List.length_map, ways_binom 0 m, Nat.zero_add, Nat.zero_add, binom_full, binom_full]
  | n + 1, m + 1 => by
    rw [ways, List.length_append, List.length_map, List.length_map, ways_binom n (m + 1), ways_binom (n + 1) m, show n + 1 + (m + 1) = (n + 1 + m) + 1 by omega, binom, show n + (m + 1) = n + 1 + m by omega, Nat.add_comm]
/-- The countings, at every pair that may be: by the kernel's own reckoning. -/
def checkAll : Bool := (List.range 17).all fun n => (List.range (17 - n)).all fun m =>
  PW.weave_Count.f 20 n m == some ((binom (n + m) m : Nat) : Int) && PW.portholeref27_Count.f 400 n m == some ((binom (n + m) m : Nat) : Int)
theorem checkAll_true : checkAll = true := by decide +kernel
theorem mayB_iff (n m : Int) : mayB n m = true ↔ 0 ≤ n ∧ 0 ≤ m ∧ n + m ≤ 16 := by simp [mayB]
theorem check_at (n m : Nat) (h : n + m ≤ 16) : PW.weave_Count.f 20 n m = some ((allW n m).length : Int) ∧ PW.portholeref27_Count.f 400 n m = some ((allW n m).length : Int) := by
  have h1 := checkAll_true
  unfold checkAll at h1
  rw [List.all_eq_true] at h1
  have h2 := h1 n (List.mem_range.2 (by omega))
  rw [List.all_eq_true] at h2
  have h3 := h2 m (List.mem_range.2 (by omega))
  rw [Bool.and_eq_true] at h3
  have e : (allW n m).length = binom (n + m) m := by
    unfold allW
    rw [if_pos ((mayB_iff _ _).2 (by omega)), Int.toNat_natCast, Int.toNat_natCast, ways_binom]
  rw [e]
  exact ⟨eq_of_beq h3.1, eq_of_beq h3.2⟩
theorem count_20 (n m : Int) : PW.weave_Count.f 20 n m = some ((allW n m).length : Int) := by
  by_cases h : mayB n m = true
  · obtain ⟨h0, h1, h2⟩ := (mayB_iff _ _).1 h
    obtain ⟨a, rfl⟩ := Int.eq_ofNat_of_zero_le h0
    obtain ⟨b, rfl⟩ := Int.eq_ofNat_of_zero_le h1
    exact (check_at a b (by omega)).1
  · unfold PW.weave_Count.f allW
    rw [may_f, if_neg h, Bool.eq_false_iff.2 h]
    rfl
theorem count_f (k : Nat) (hk : 20 ≤ k) (n m : Int) : PW.weave_Count.f k n m = some ((allW n m).length : Int) := by
  obtain ⟨d, rfl⟩ : ∃ d, k = 20 + d := ⟨k - 20, by omega⟩
  induction d with
  | zero => exact count_20 n m
  | succ d ih => exact PW.weave_Count.mono n m (20 + d) _ (ih (by omega))
theorem rmay_f (n m : Int) : PW.portholeref27_May.f n m = some (mayB n m) := by
  unfold PW.portholeref27_May.f mayB
  by_cases h1 : n ≥ 0
  · by_cases h2 : m ≥ 0
    · by_cases h3 : n ≤ 16
      · by_cases h4 : m ≤ 16
        · rw [if_pos h1, if_pos h2, if_pos h3, if_pos h4, show wrap64 (n + m) = n + m by unfold wrap64; omega]
          congr 1
          rw [decide_eq_decide]
          omega
        · rw [if_pos h1, if_pos h2, if_pos h3, if_neg h4, decide_eq_false (by omega)]
      · rw [if_pos h1, if_pos h2, if_neg h3, decide_eq_false (by omega)]
    · rw [if_pos h1, if_neg h2, decide_eq_false (by omega)]
  · rw [if_neg h1, decide_eq_false (by omega)]
theorem rcount_f (n m : Int) : PW.portholeref27_Count.f 400 n m = some ((allW n m).length : Int) := by
  by_cases h : mayB n m = true
  · obtain ⟨h0, h1, h2⟩ := (mayB_iff _ _).1 h
    obtain ⟨a, rfl⟩ := Int.eq_ofNat_of_zero_le h0
    obtain ⟨b, rfl⟩ := Int.eq_ofNat_of_zero_le h1
    exact (check_at a b (by omega)).2
  · unfold PW.portholeref27_Count.f allW
    rw [rmay_f, if_neg h, Bool.eq_false_iff.2 h]
    rfl
end Go.Proofs.Ytegckjbjbodhhaa.Weave
