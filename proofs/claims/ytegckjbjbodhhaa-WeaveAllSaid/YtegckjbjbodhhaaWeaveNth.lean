import Derived.Test.YtegckjbjbodhhaaWeaveCount
import Derived.Test.YtegckjbjbodhhaaSame
import Derived.Test.YtegckjbjbodhhaaWeaveTold
import Derived.Test.YtegckjbjbodhhaaPWx14
import Derived.Test.YtegckjbjbodhhaaPWx15
import Derived.Test.YtegckjbjbodhhaaPWx16
import Derived.Test.YtegckjbjbodhhaaPWx18
/- The ways in order: Nth, Way, Less, Rank, in plain words. -/
namespace Go.Proofs.Ytegckjbjbodhhaa.Weave
open Go.RowKit Go.Proofs.YtegckjbjbodhhaaW.PrintWords
/-! The ways that begin with 0, and those that begin with 1. -/
theorem ways_split (n m : Nat) (h : 0 < n + m) : ways n m = (if n = 0 then [] else (ways (n - 1) m).map (0 :: ·)) ++ (if m = 0 then [] else (ways n (m - 1)).map (1 :: ·)) := by
  rw [← parts_two n m h]; rfl
theorem allW_at (n m : Nat) (h : n + m ≤ 16) : allW n m = ways n m := by
  unfold allW
  rw [if_pos ((mayB_iff _ _).2 (by omega)), Int.toNat_natCast, Int.toNat_natCast]
theorem allW_first (n m : Nat) (h : n + m ≤ 16) : (allW ((n : Int) - 1) m).length = (if n = 0 then [] else (ways (n - 1) m).map (0 :: ·)).length := by
  by_cases h0 : n = 0
  · rw [if_pos h0]
    unfold allW
    rw [if_neg (fun h => by have := (mayB_iff _ _).1 h; omega)]
  · rw [if_neg h0, show (n : Int) - 1 = ((n - 1 : Nat) : Int) by omega, allW_at _ _ (by omega), List.length_map]
/-! Nth -/
theorem nth_l0 : ∀ (s n m : Nat), n + m = s → s ≤ 16 → ∀ (k i : Nat) (acc r : List Int), s + 21 ≤ k → acc.length + s ≤ 100 → (ways n m)[i]? = some r → PW.weave_Nth.l0 k (n : Int) (m : Int) (i : Int) acc = some (acc ++ r, true) := by
  intro s
  induction s with
  | zero =>
    intro n m h _ k i acc r hk _ hr
    obtain ⟨rfl, rfl⟩ : n = 0 ∧ m = 0 := by omega
    obtain ⟨k, rfl⟩ : ∃ q, k = q + 1 := ⟨k - 1, by omega⟩
    have hr0 : r = [] := by
      rw [show ways 0 0 = [[]] by simp [ways]] at hr
      cases i with
      | zero => simpa using hr.symm
      | succ i => simp at hr
    simp only [PW.weave_Nth.l0]
    rw [if_neg (by unfold wrap64; omega), hr0, List.append_nil]
  | succ s ih =>
    intro n m h hs k i acc r hk ha hr
    obtain ⟨k, rfl⟩ : ∃ q, k = q + 1 := ⟨k - 1, by omega⟩
    have hib : i < 65536 := by
      obtain ⟨hlt, _⟩ := List.getElem?_eq_some_iff.1 hr
      have := allW_len n m
      rw [allW_at n m (by omega)] at this
      omega
    rw [ways_split n m (by omega)] at hr
    have hc := count_f k (by omega) ((n : Int) - 1) m
    rw [allW_first n m (by omega)] at hc
    simp only [PW.weave_Nth.l0]
    rw [if_pos (by unfold wrap64; omega), show wrap64 ((n : Int) - 1) = (n : Int) - 1 by unfold wrap64; omega, hc]
    simp only [Option.bind_some]
    by_cases hi : i < (if n = 0 then [] else (ways (n - 1) m).map (0 :: ·)).length
    · rw [if_neg (by omega), if_pos (by omega)]
      rw [List.getElem?_append_left hi] at hr
      by_cases h0 : n = 0
      · rw [if_pos h0] at hr; simp at hr
      · rw [if_neg h0, List.getElem?_map] at hr
        obtain ⟨r', hr', rfl⟩ := Option.map_eq_some_iff.1 hr
        rw [show wrap64 ((n : Int) - 1 + 0) = ((n - 1 : Nat) : Int) by unfold wrap64; omega, show wrap64 ((m : Int) - 0) = (m : Int) by unfold wrap64; omega, ih (n - 1) m (by omega) (by omega) k i (acc ++ [0]) r' (by omega) (by rw [List.length_append, List.length_singleton]; omega) hr']
        simp
    · rw [if_pos (by omega), if_pos (by omega)]
      rw [List.getElem?_append_right (by omega)] at hr
      by_cases h0 : m = 0
      · rw [if_pos h0] at hr; simp at hr
      · rw [if_neg h0, List.getElem?_map] at hr
        obtain ⟨r', hr', rfl⟩ := Option.map_eq_some_iff.1 hr
        rw [show wrap64 ((n : Int) - 1 + 1) = (n : Int) by unfold wrap64; omega, show wrap64 ((m : Int) - 1) = ((m - 1 : Nat) : Int) by unfold wrap64; omega]
        generalize hL : (if n = 0 then [] else (ways (n - 1) m).map (0 :: ·)).length = L at *
        rw [show wrap64 ((i : Int) - (L : Int)) = ((i - L : Nat) : Int) by unfold wrap64; omega, ih n (m - 1) (by omega) (by omega) k (i - L) (acc ++ [1]) r' (by omega) (by rw [List.length_append, List.length_singleton]; omega) hr']
        simp
theorem j0_60 (n m i : Int) (b : Bool) : PW.weave_Nth.j0 60 n m i b = if b = true then some ([], false) else PW.weave_Nth.l0 59 n m i [] := by
  rw [show PW.weave_Nth.j0 60 = PW.weave_Nth.j0 (59 + 1) from rfl]
  simp only [PW.weave_Nth.j0]
/-- The way at a place. -/
def wayAt (n m i : Int) : Option (List Int) := if 0 ≤ i then (allW n m)[i.toNat]? else none
theorem nth_some (n m i : Int) (r : List Int) (h : wayAt n m i = some r) : PW.weave_Nth.f 60 n m i = some (r, true) := by
  unfold wayAt at h
  split at h
  · rename_i h0
    obtain ⟨hlt, _⟩ := List.getElem?_eq_some_iff.1 h
    obtain ⟨j, rfl⟩ := Int.eq_ofNat_of_zero_le h0
    rw [Int.toNat_natCast] at h hlt
    by_cases hm : mayB n m = true
    · obtain ⟨h1, h2, h3⟩ := (mayB_iff _ _).1 hm
      obtain ⟨a, rfl⟩ := Int.eq_ofNat_of_zero_le h1
      obtain ⟨b, rfl⟩ := Int.eq_ofNat_of_zero_le h2
      unfold PW.weave_Nth.f
      rw [if_neg (by omega), count_f 60 (by omega), Option.bind_some, decide_eq_false (by omega)]
      rw [j0_60, if_neg (by decide)]
      rw [allW_at a b (by omega)] at h
      exact nth_l0 (a + b) a b rfl (by omega) 59 j [] r (by omega) (by simp; omega) h
    · unfold allW at hlt
      rw [if_neg hm] at hlt
      simp at hlt
  · cases h
theorem nth_none (n m i : Int) (h : wayAt n m i = none) : PW.weave_Nth.f 60 n m i = some ([], false) := by
  unfold wayAt at h
  unfold PW.weave_Nth.f
  by_cases h0 : i < 0
  · rw [if_pos h0]
    rw [j0_60, if_pos rfl]
  · rw [if_neg h0, count_f 60 (by omega), Option.bind_some]
    rw [if_pos (by omega)] at h
    have := List.getElem?_eq_none_iff.1 h
    rw [decide_eq_true (by omega)]
    rw [j0_60, if_pos rfl]
theorem wayAt_some_iff (n m i : Int) : (wayAt n m i).isSome = decide (0 ≤ i ∧ i < ((allW n m).length : Int)) := by
  unfold wayAt
  by_cases h0 : 0 ≤ i
  · rw [if_pos h0]
    by_cases h1 : i.toNat < (allW n m).length
    · rw [List.getElem?_eq_getElem h1, decide_eq_true (by omega)]; rfl
    · rw [List.getElem?_eq_none (by omega), decide_eq_false (by omega)]; rfl
  · rw [if_neg h0, decide_eq_false (by omega)]; rfl
/-! Less -/
def lessB : List Int → List Int → Bool
  | a :: l, b :: r => if a = b then lessB l r else decide (a < b)
  | _, _ => false
theorem less_l0 (a b : List Int) (ha : a.length ≤ 1000) : ∀ (q k j : Nat), a.length - j = q → j ≤ a.length → 2 * q + 2 ≤ k → PW.portholeref27_Less.l0 k a b (j : Int) = some (lessB (a.drop j) (b.drop j)) := by
  intro q
  induction q with
  | zero =>
    intro k j hq hj hk
    obtain ⟨k, rfl⟩ : ∃ q, k = q + 2 := ⟨k - 2, by omega⟩
    simp only [PW.portholeref27_Less.l0, PW.portholeref27_Less.j1]
    rw [if_neg (by omega), List.drop_of_length_le (by omega)]
    rw [if_neg (by decide)]
    rfl
  | succ q ih =>
    intro k j hq hj hk
    obtain ⟨k, rfl⟩ : ∃ q, k = q + 2 := ⟨k - 2, by omega⟩
    have hja : j < a.length := by omega
    simp only [PW.portholeref27_Less.l0, PW.portholeref27_Less.j1]
    have e1 : a.drop j = a[j] :: a.drop (j + 1) := List.drop_eq_getElem_cons hja
    rw [if_pos (by omega)]
    by_cases hjb : j < b.length
    · have e2 : b.drop j = b[j] :: b.drop (j + 1) := List.drop_eq_getElem_cons hjb
      rw [decide_eq_true (by omega), if_pos rfl, if_pos (by omega), if_pos (by omega), if_pos (by omega), rd_at a j hja, rd_at b j hjb, e1, e2, lessB]
      by_cases he : a[j] = b[j]
      · rw [if_pos he, if_pos he, show wrap64 ((j : Int) + 1) = ((j + 1 : Nat) : Int) from by unfold wrap64; omega, ih k (j + 1) (by omega) (by omega) (by omega)]
      · rw [if_neg he, if_neg he]
    · rw [decide_eq_false (by omega), if_neg (by decide), e1, List.drop_of_length_le (show b.length ≤ j by omega)]
      rfl
theorem less_f (k : Nat) (a b : List Int) (ha : a.length ≤ 1000) (hk : 2 * a.length + 2 ≤ k) : PW.portholeref27_Less.f k a b = some (lessB a b) := by
  unfold PW.portholeref27_Less.f
  have := less_l0 a b ha a.length k 0 (by omega) (by omega) hk
  simpa using this
theorem lessB_self : ∀ l, lessB l l = false
  | [] => rfl
  | a :: l => by rw [lessB, if_pos rfl, lessB_self l]
/-- The ways come in order. -/
theorem ways_sorted : ∀ (s n m : Nat), n + m = s → (ways n m).Pairwise (fun a b => lessB a b = true ∧ lessB b a = false ∧ a ≠ b) := by
  intro s
  induction s with
  | zero =>
    intro n m h
    obtain ⟨rfl, rfl⟩ : n = 0 ∧ m = 0 := by omega
    rw [show ways 0 0 = [[]] by simp [ways]]
    simp
  | succ s ih =>
    intro n m h
    rw [ways_split n m (by omega), List.pairwise_append]
    have hmap : ∀ (c : Int) (L : List (List Int)), L.Pairwise (fun a b => lessB a b = true ∧ lessB b a = false ∧ a ≠ b) → (L.map (c :: ·)).Pairwise (fun a b => lessB a b = true ∧ lessB b a = false ∧ a ≠ b) := by
      intro c L hL
      rw [List.pairwise_map]
      refine hL.imp ?_
      rintro a b ⟨h1, h2, h3⟩
      refine ⟨by rw [lessB, if_pos rfl, h1], by rw [lessB, if_pos rfl, h2], fun e => h3 (List.cons.inj e).2⟩
    refine ⟨?_, ?_, ?_⟩
    · split
      · exact List.Pairwise.nil
      · exact hmap 0 _ (ih (n - 1) m (by omega))
    · split
      · exact List.Pairwise.nil
      · exact hmap 1 _ (ih n (m - 1) (by omega))
    · intro a ha b hb
      have h1 : ∃ a', a = 0 :: a' := by
        split at ha
        · simp at ha
        · obtain ⟨a', _, rfl⟩ := List.mem_map.1 ha; exact ⟨a', rfl⟩
      have h2 : ∃ b', b = 1 :: b' := by
        split at hb
        · simp at hb
        · obtain ⟨b', _, rfl⟩ := List.mem_map.1 hb; exact ⟨b', rfl⟩
      obtain ⟨a', rfl⟩ := h1
      obtain ⟨b', rfl⟩ := h2
      exact ⟨by simp [lessB], by simp [lessB], by simp⟩
end Go.Proofs.Ytegckjbjbodhhaa.Weave
