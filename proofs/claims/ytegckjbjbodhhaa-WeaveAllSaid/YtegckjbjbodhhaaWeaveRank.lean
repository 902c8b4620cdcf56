import Derived.Test.YtegckjbjbodhhaaWeaveNth
/- Way and Rank in plain words. -/
namespace Go.Proofs.Ytegckjbjbodhhaa.Weave
open Go.RowKit Go.Proofs.YtegckjbjbodhhaaW.PrintWords
def ones : List Int → Nat
  | [] => 0
  | a :: l => (if a = 1 then 1 else 0) + ones l
def isW (l : List Int) : Bool := l.all fun x => x == 0 || x == 1
theorem ones_le : ∀ l, ones l ≤ l.length
  | [] => Nat.le_refl _
  | a :: l => by
    have := ones_le l
    simp only [ones, List.length_cons]
    split <;> omega
theorem isW_bad (a : Int) (l : List Int) (h0 : ¬ a = 0) (h1 : ¬ a = 1) : isW (a :: l) = false := by simp [isW, h0, h1]
theorem isW_cons (a : Int) (l : List Int) : isW (a :: l) = true ↔ (a = 0 ∨ a = 1) ∧ isW l = true := by simp [isW]
def wayB (l : List Int) (n m : Int) : Bool := isW l && (decide ((l.length : Int) = wrap64 (n + m)) && ((ones l : Int) == m))
theorem way_l0 (l : List Int) (n m : Int) (hl : l.length ≤ 1000) : ∀ (q k j t : Nat), l.length - j = q → j ≤ l.length → t ≤ j → q + 1 ≤ k → PW.portholeref27_Way.l0 k l n m (t : Int) (j : Int) = some (isW (l.drop j) && (decide ((l.length : Int) = wrap64 (n + m)) && (((t + ones (l.drop j) : Nat) : Int) == m))) := by
  intro q
  induction q with
  | zero =>
    intro k j t hq hj ht hk
    obtain ⟨k, rfl⟩ : ∃ q, k = q + 1 := ⟨k - 1, by omega⟩
    simp only [PW.portholeref27_Way.l0]
    rw [if_neg (by omega), List.drop_of_length_le (by omega)]
    by_cases h : (l.length : Int) = wrap64 (n + m)
    · rw [if_pos h, decide_eq_true h]; simp [isW, ones]
    · rw [if_neg h, decide_eq_false h]; simp
  | succ q ih =>
    intro k j t hq hj ht hk
    obtain ⟨k, rfl⟩ : ∃ q, k = q + 1 := ⟨k - 1, by omega⟩
    have hja : j < l.length := by omega
    have e1 : l.drop j = l[j] :: l.drop (j + 1) := List.drop_eq_getElem_cons hja
    simp only [PW.portholeref27_Way.l0]
    rw [if_pos (by omega), if_pos (by omega), rd_at l j hja, e1]
    by_cases h0 : l[j] = 0
    · rw [if_pos h0, h0, show wrap64 ((t : Int) + 0) = (t : Int) by unfold wrap64; omega, show wrap64 ((j : Int) + 1) = ((j + 1 : Nat) : Int) by unfold wrap64; omega, ih k (j + 1) t (by omega) (by omega) (by omega) (by omega)]
      simp [isW, ones]
    · rw [if_neg h0]
      by_cases h1 : l[j] = 1
      · rw [if_pos h1, h1, show wrap64 ((t : Int) + 1) = ((t + 1 : Nat) : Int) by unfold wrap64; omega, show wrap64 ((j : Int) + 1) = ((j + 1 : Nat) : Int) by unfold wrap64; omega, ih k (j + 1) (t + 1) (by omega) (by omega) (by omega) (by omega)]
        simp [isW, ones, Int.add_assoc]
      · rw [if_neg h1, isW_bad _ _ h0 h1]
        rfl
theorem way_f (k : Nat) (l : List Int) (n m : Int) (hl : l.length ≤ 1000) (hk : l.length + 1 ≤ k) : PW.portholeref27_Way.f k l n m = some (wayB l n m) := by
  unfold PW.portholeref27_Way.f wayB
  have := way_l0 l n m hl l.length k 0 0 (by omega) (by omega) (by omega) hk
  simpa using this
/-- Each way is one. -/
theorem ways_way : ∀ (s n m : Nat), n + m = s → ∀ l ∈ ways n m, isW l = true ∧ l.length = n + m ∧ ones l = m := by
  intro s
  induction s with
  | zero =>
    intro n m h l hl
    obtain ⟨rfl, rfl⟩ : n = 0 ∧ m = 0 := by omega
    rw [show ways 0 0 = [[]] by simp [ways]] at hl
    simp at hl
    subst hl
    exact ⟨rfl, rfl, rfl⟩
  | succ s ih =>
    intro n m h l hl
    rw [ways_split n m (by omega), List.mem_append] at hl
    rcases hl with hl | hl
    · split at hl
      · simp at hl
      · obtain ⟨l', h', rfl⟩ := List.mem_map.1 hl
        obtain ⟨a1, a2, a3⟩ := ih (n - 1) m (by omega) l' h'
        exact ⟨(isW_cons _ _).2 ⟨.inl rfl, a1⟩, by rw [List.length_cons, a2]; omega, by rw [ones, a3]; simp⟩
    · split at hl
      · simp at hl
      · obtain ⟨l', h', rfl⟩ := List.mem_map.1 hl
        obtain ⟨a1, a2, a3⟩ := ih n (m - 1) (by omega) l' h'
        exact ⟨(isW_cons _ _).2 ⟨.inr rfl, a1⟩, by rw [List.length_cons, a2]; omega, by rw [ones, a3]; simp; omega⟩
theorem wayB_of (n m : Int) (l : List Int) (h : l ∈ allW n m) : wayB l n m = true ∧ l.length ≤ 16 := by
  unfold allW at h
  split at h
  · rename_i hm
    obtain ⟨h1, h2, h3⟩ := (mayB_iff _ _).1 hm
    obtain ⟨a1, a2, a3⟩ := ways_way _ _ _ rfl l h
    refine ⟨?_, by omega⟩
    unfold wayB
    rw [a1, a2, a3, decide_eq_true (by unfold wrap64; omega)]
    simp
    omega
  · simp at h
/-! Rank -/
def rk : Nat → Nat → List Int → Nat
  | _, _, [] => 0
  | n, m, a :: l => if a = 1 then (allW ((n : Int) - 1) m).length + rk n (m - 1) l else rk (n - 1) m l
theorem rk_at : ∀ (l : List Int) (n m : Nat), isW l = true → l.length = n + m → ones l = m → n + m ≤ 16 → (ways n m)[rk n m l]? = some l
  | [], n, m, _, h2, h3, _ => by
    have h2 : 0 = n + m := h2
    obtain ⟨rfl, rfl⟩ : n = 0 ∧ m = 0 := by omega
    rw [show ways 0 0 = [[]] by simp [ways]]
    rfl
  | a :: l, n, m, h1, h2, h3, h4 => by
    obtain ⟨ha, hw⟩ := (isW_cons _ _).1 h1
    rw [List.length_cons] at h2
    rw [ways_split n m (by omega)]
    have ho := ones_le l
    rcases ha with rfl | rfl
    · have h3' : ones l = m := by simpa [ones] using h3
      have hn : n ≠ 0 := by omega
      have ih := rk_at l (n - 1) m hw (by omega) h3' (by omega)
      rw [rk, if_neg (show ¬ (0 : Int) = 1 by decide), if_neg hn, List.getElem?_append_left (by rw [List.length_map]; exact (List.getElem?_eq_some_iff.1 ih).1), List.getElem?_map, ih]
      rfl
    · have h3' : 1 + ones l = m := by simpa [ones] using h3
      have hm : m ≠ 0 := by omega
      have ih := rk_at l n (m - 1) hw (by omega) (by omega) (by omega)
      rw [rk, if_pos rfl, allW_first n m (by omega), List.getElem?_append_right (by omega), Nat.add_sub_cancel_left, if_neg hm, List.getElem?_map, ih]
      rfl
theorem rank_l1 (l : List Int) (hl : l.length ≤ 16) : ∀ (q k j t n m : Nat), l.length - j = q → j ≤ l.length → t ≤ 65536 * j → q + 21 ≤ k → isW (l.drop j) = true → ones (l.drop j) = m → n + m = q →
    PW.weave_Rank.l1 k (n : Int) (m : Int) (t : Int) l (l.length : Int) (j : Int) = some (((t + rk n m (l.drop j) : Nat) : Int), true) := by
  intro q
  induction q with
  | zero =>
    intro k j t n m hq hj ht hk hw ho hnm
    obtain ⟨k, rfl⟩ : ∃ q, k = q + 1 := ⟨k - 1, by omega⟩
    simp only [PW.weave_Rank.l1]
    rw [if_neg (by omega), List.drop_of_length_le (by omega)]
    rfl
  | succ q ih =>
    intro k j t n m hq hj ht hk hw ho hnm
    obtain ⟨k, rfl⟩ : ∃ q, k = q + 1 := ⟨k - 1, by omega⟩
    have hja : j < l.length := by omega
    have e1 : l.drop j = l[j] :: l.drop (j + 1) := List.drop_eq_getElem_cons hja
    have hle := ones_le (l.drop (j + 1))
    rw [List.length_drop] at hle
    rw [e1] at hw ho ⊢
    obtain ⟨ha, hw⟩ := (isW_cons _ _).1 hw
    simp only [PW.weave_Rank.l1]
    rw [if_pos (by omega), if_pos (by omega), if_pos (by omega), rd_at l j hja]
    rcases ha with ha | ha
    · rw [ha] at ho ⊢
      have ho : ones (l.drop (j + 1)) = m := by simpa [ones] using ho
      rw [if_neg (by decide), show wrap64 (wrap64 ((n : Int) - 1) + 0) = ((n - 1 : Nat) : Int) by unfold wrap64; omega, show wrap64 ((m : Int) - 0) = (m : Int) by unfold wrap64; omega, show wrap64 ((j : Int) + 1) = ((j + 1 : Nat) : Int) by unfold wrap64; omega, ih k (j + 1) t (n - 1) m (by omega) (by omega) (by omega) (by omega) hw ho (by omega), rk, if_neg (by decide)]
    · rw [ha] at ho ⊢
      have ho : 1 + ones (l.drop (j + 1)) = m := by simpa [ones] using ho
      have hb := allW_len ((n : Int) - 1) m
      rw [if_pos rfl, show wrap64 ((n : Int) - 1) = (n : Int) - 1 by unfold wrap64; omega, count_f k (by omega), Option.bind_some, rk, if_pos rfl]
      generalize (allW ((n : Int) - 1) m).length = c at *
      rw [show wrap64 ((n : Int) - 1 + 1) = (n : Int) by unfold wrap64; omega, show wrap64 ((m : Int) - 1) = ((m - 1 : Nat) : Int) by unfold wrap64; omega, show wrap64 ((j : Int) + 1) = ((j + 1 : Nat) : Int) by unfold wrap64; omega, show wrap64 ((t : Int) + (c : Int)) = ((t + c : Nat) : Int) by unfold wrap64; omega, ih k (j + 1) (t + c) n (m - 1) (by omega) (by omega) (by omega) (by omega) hw (by omega) (by omega), Nat.add_assoc]
theorem rank_l0 (l : List Int) (hl : l.length ≤ 100) : ∀ (q k j n m : Nat), l.length - j = q → j ≤ l.length → n + m = j → q + 60 ≤ k →
    PW.weave_Rank.l0 k l (n : Int) (m : Int) l (l.length : Int) (j : Int) = if isW (l.drop j) = true then (if mayB ((n + (q - ones (l.drop j)) : Nat) : Int) ((m + ones (l.drop j) : Nat) : Int) = true then PW.weave_Rank.l1 (k - q - 1) ((n + (q - ones (l.drop j)) : Nat) : Int) ((m + ones (l.drop j) : Nat) : Int) 0 l (l.length : Int) 0 else some (0, false)) else some (0, false) := by
  intro q
  induction q with
  | zero =>
    intro k j n m hq hj hnm hk
    obtain ⟨k, rfl⟩ : ∃ q, k = q + 1 := ⟨k - 1, by omega⟩
    simp only [PW.weave_Rank.l0]
    rw [if_neg (by omega), List.drop_of_length_le (by omega), may_f, Option.bind_some, if_pos (show isW [] = true from rfl)]
    rfl
  | succ q ih =>
    intro k j n m hq hj hnm hk
    obtain ⟨k, rfl⟩ : ∃ q, k = q + 1 := ⟨k - 1, by omega⟩
    have hja : j < l.length := by omega
    have e1 : l.drop j = l[j] :: l.drop (j + 1) := List.drop_eq_getElem_cons hja
    have hle := ones_le (l.drop (j + 1))
    rw [List.length_drop] at hle
    simp only [PW.weave_Rank.l0]
    rw [if_pos (by omega), if_pos (by omega), if_pos (by omega), rd_at l j hja, e1, show wrap64 ((j : Int) + 1) = ((j + 1 : Nat) : Int) by unfold wrap64; omega, show k + 1 - (q + 1) - 1 = k - q - 1 by omega]
    by_cases h0 : l[j] = 0
    · rw [if_pos h0, show wrap64 ((n : Int) + 1) = ((n + 1 : Nat) : Int) by unfold wrap64; omega, ih k (j + 1) (n + 1) m (by omega) (by omega) (by omega) (by omega), h0, show isW (0 :: l.drop (j + 1)) = isW (l.drop (j + 1)) by simp [isW], show ones (0 :: l.drop (j + 1)) = ones (l.drop (j + 1)) by simp [ones], show n + 1 + (q - ones (l.drop (j + 1))) = n + (q + 1 - ones (l.drop (j + 1))) by omega]
    · rw [if_neg h0]
      by_cases h1 : l[j] = 1
      · rw [if_pos h1, show wrap64 ((m : Int) + 1) = ((m + 1 : Nat) : Int) by unfold wrap64; omega, ih k (j + 1) n (m + 1) (by omega) (by omega) (by omega) (by omega), h1, show isW (1 :: l.drop (j + 1)) = isW (l.drop (j + 1)) by simp [isW], show ones (1 :: l.drop (j + 1)) = 1 + ones (l.drop (j + 1)) by simp [ones], show n + (q + 1 - (1 + ones (l.drop (j + 1)))) = n + (q - ones (l.drop (j + 1))) by omega, show m + (1 + ones (l.drop (j + 1))) = m + 1 + ones (l.drop (j + 1)) by omega]
      · rw [if_neg h1, if_neg (by rw [isW_bad _ _ h0 h1]; decide)]
theorem rank_f (l : List Int) (hl : l.length ≤ 100) : PW.weave_Rank.f 200 l = some (if isW l = true ∧ mayB ((l.length - ones l : Nat) : Int) ((ones l : Nat) : Int) = true then ((rk (l.length - ones l) (ones l) l : Int), true) else (0, false)) := by
  unfold PW.weave_Rank.f
  have h := rank_l0 l hl l.length 200 0 0 0 (by omega) (by omega) (by omega) (by omega)
  rw [List.drop_zero, Nat.zero_add, Nat.zero_add] at h
  refine Eq.trans h ?_
  by_cases h1 : isW l = true
  · by_cases h2 : mayB ((l.length - ones l : Nat) : Int) ((ones l : Nat) : Int) = true
    · rw [if_pos h1, if_pos h2, if_pos ⟨h1, h2⟩]
      have h3 := (mayB_iff _ _).1 h2
      have h4 := ones_le l
      have := rank_l1 l (by omega) l.length (200 - l.length - 1) 0 0 (l.length - ones l) (ones l) (by omega) (by omega) (by omega) (by omega) h1 rfl (by omega)
      rw [List.drop_zero, Nat.zero_add] at this
      exact this
    · rw [if_pos h1, if_neg h2, if_neg (fun h => h2 h.2)]
  · rw [if_neg h1, if_neg (fun h => h1 h.1)]
end Go.Proofs.Ytegckjbjbodhhaa.Weave
