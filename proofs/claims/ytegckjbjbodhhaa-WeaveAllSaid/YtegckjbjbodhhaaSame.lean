import Derived.Test.YtegckjbjbodhhaaPWx3
/- Same: whether two rows are the same, at enough fuel. -/
namespace Go.Proofs.Ytegckjbjbodhhaa.Weave
open Go.RowKit Go.Proofs.YtegckjbjbodhhaaW.PrintWords
theorem rd_at (l : List Int) (j : Nat) (h : j < l.length) : rd l (j : Int) = l[j] := by
  unfold rd
  rw [Int.toNat_natCast, List.getD_eq_getElem?_getD, List.getElem?_eq_getElem h]
  rfl
theorem same_f (k : Nat) (a b : List Int) (h : a.length ≤ 1152921504606846976) (hk : a.length < k) : PW.portholeref01_Same.f k a b = some (decide (a = b)) := by
  unfold PW.portholeref01_Same.f
  by_cases hl : a.length = b.length
  · rw [if_pos (by omega)]
    have key : ∀ (m k j : Nat), a.length - j = m → m < k → PW.portholeref01_Same.l0 k a b (j : Int) = some (decide (a.drop j = b.drop j)) := by
      intro m
      induction m with
      | zero =>
        intro k j hm hk
        obtain ⟨k, rfl⟩ : ∃ q, k = q + 1 := ⟨k - 1, by omega⟩
        simp only [PW.portholeref01_Same.l0]
        rw [if_neg (by omega), List.drop_of_length_le (by omega), List.drop_of_length_le (by omega)]
        rfl
      | succ m ih =>
        intro k j hm hk
        obtain ⟨k, rfl⟩ : ∃ q, k = q + 1 := ⟨k - 1, by omega⟩
        have hja : j < a.length := by omega
        have hjb : j < b.length := by omega
        simp only [PW.portholeref01_Same.l0]
        rw [if_pos (by omega), if_pos (by omega), if_pos (by omega), show wrap64 ((j : Int) + 1) = ((j + 1 : Nat) : Int) from by unfold wrap64; omega, rd_at a j hja, rd_at b j hjb]
        have e1 : a.drop j = a[j] :: a.drop (j + 1) := List.drop_eq_getElem_cons hja
        have e2 : b.drop j = b[j] :: b.drop (j + 1) := List.drop_eq_getElem_cons hjb
        by_cases he : a[j] = b[j]
        · rw [if_pos he, ih k (j + 1) (by omega) (by omega), e1, e2, he]
          simp only [List.cons.injEq, true_and]
        · rw [if_neg he, e1, e2]
          simp only [List.cons.injEq, he, false_and, decide_false]
    simpa using key a.length k 0 (by omega) hk
  · rw [if_neg (by omega)]
    rw [decide_eq_false (fun e => hl (by rw [e]))]
end Go.Proofs.Ytegckjbjbodhhaa.Weave
