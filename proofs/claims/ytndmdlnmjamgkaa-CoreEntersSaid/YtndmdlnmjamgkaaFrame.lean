import Derived.Test.YtndmdlnmjamgkaaPFx1
import Derived.Test.YtndmdlnmjamgkaaPFx2
import Derived.Test.YtndmdlnmjamgkaaPFx3
/- What the functions of package frame and of its reference compute, in plain Lean: right frames, whose time it is, who is entered. -/
namespace Go.Proofs.Ytndmdlnmjamgkaa.Frame
open Go.RowKit Go.Proofs.YtndmdlnmjamgkaaW.PrintWords Go.Proofs.Ytndmdlnmjamgkaa.PF

theorem drop_rd (ws : List S46) (j : Nat) (h : j < ws.length) : ws.drop j = rd_T46 ws (j : Int) :: ws.drop (j + 1) := by
  rw [List.drop_eq_getElem_cons h]
  congr 1
  unfold rd_T46
  rw [show ((j : Int)).toNat = j from by omega, List.getD_eq_getElem?_getD, List.getElem?_eq_getElem h]
  rfl
theorem wrap_succ (j : Nat) (h : j < 4611686018427387904) : wrap64 ((j : Int) + 1) = ((j + 1 : Nat) : Int) := by
  unfold wrap64; omega

/-- The windows from a place on, none ahead of e, all within L. -/
def ok (L : Int) : Int → List S46 → Bool
  | _, [] => true
  | e, w :: r => if w.f1 < e then false else if w.f2 < 1 then false else if w.f1 > L then false else if w.f2 > L - w.f1 then false else ok L (w.f1 + w.f2) r
def right (L : Int) (ws : List S46) : Bool := if L < 1 then false else if L > 64 then false else if (ws.length : Int) > 16 then false else ok L 0 ws

theorem right_l0 (L : Int) (hL : L ≤ 64) (ws : List S46) (hlen : ws.length ≤ 16) (m : Nat) : ∀ (k j : Nat) (e : Int), ws.length - j = m → j ≤ ws.length → m < k → 0 ≤ e → e ≤ 64 →
    frame_Right.l0 k e ws (ws.length : Int) (j : Int) L ws = some (ok L e (ws.drop j)) := by
  induction m with
  | zero =>
    intro k j e hm hj hk h0 h1
    obtain ⟨k, rfl⟩ : ∃ q, k = q + 1 := ⟨k - 1, by omega⟩
    simp only [frame_Right.l0]
    rw [if_neg (by omega), List.drop_of_length_le (by omega)]
    rfl
  | succ m ih =>
    intro k j e hm hj hk h0 h1
    obtain ⟨k, rfl⟩ : ∃ q, k = q + 1 := ⟨k - 1, by omega⟩
    simp only [frame_Right.l0]
    rw [if_pos (by omega), if_pos (by omega), if_pos (by omega), drop_rd ws j (by omega)]
    generalize rd_T46 ws (j : Int) = w
    unfold ok
    by_cases c1 : w.f1 < e
    · rw [if_pos c1, if_pos c1]
    rw [if_neg c1, if_neg c1]
    by_cases c2 : w.f2 < 1
    · rw [if_pos c2, if_pos c2]
    rw [if_neg c2, if_neg c2]
    by_cases c3 : w.f1 > L
    · rw [if_pos c3, if_pos c3]
    rw [if_neg c3, if_neg c3]
    rw [show wrap64 (L - w.f1) = L - w.f1 from by unfold wrap64; omega]
    by_cases c4 : w.f2 > L - w.f1
    · rw [if_pos c4, if_pos c4]
    rw [if_neg c4, if_neg c4, wrap_succ j (by omega), show wrap64 (w.f1 + w.f2) = w.f1 + w.f2 from by unfold wrap64; omega]
    exact ih k (j + 1) _ (by omega) (by omega) (by omega) (by omega) (by omega)

theorem Right_eq (k : Nat) (hk : 20 < k) (L : Int) (ws : List S46) : frame_Right.f k L ws = some (right L ws) := by
  obtain ⟨k, rfl⟩ : ∃ q, k = q + 1 := ⟨k - 1, by omega⟩
  unfold frame_Right.f right
  by_cases c1 : L < 1
  · rw [if_pos c1, if_pos c1]; simp only [frame_Right.j0]; rfl
  rw [if_neg c1, if_neg c1]
  by_cases c2 : L > 64
  · rw [if_pos c2, if_pos c2]; simp only [frame_Right.j0]; rfl
  rw [if_neg c2, if_neg c2]
  simp only [frame_Right.j0]
  by_cases c3 : (ws.length : Int) > 16
  · rw [if_pos (decide_eq_true c3), if_pos c3]
  rw [if_neg (by simpa using c3), if_neg c3]
  exact right_l0 L (by omega) ws (by omega) ws.length k 0 0 (by omega) (by omega) (by omega) (by omega) (by omega)

/-- The reference's way to say it: the one ahead is looked at anew. -/
theorem ref_l0 (L : Int) (hL : L ≤ 64) (ws : List S46) (hlen : ws.length ≤ 16) (m : Nat) : ∀ (k j : Nat) (e : Int), ws.length - j = m → j ≤ ws.length → 2 * m < k → 0 ≤ e → e ≤ 64 →
    (j = 0 → e = 0) → (0 < j → e = (rd_T46 ws ((j : Int) - 1)).f1 + (rd_T46 ws ((j : Int) - 1)).f2) →
    portholeref09_Right.l0 k (j : Int) L ws = some (ok L e (ws.drop j)) := by
  induction m with
  | zero =>
    intro k j e hm hj hk h0 h1 _ _
    obtain ⟨k, rfl⟩ : ∃ q, k = q + 1 := ⟨k - 1, by omega⟩
    simp only [portholeref09_Right.l0]
    rw [if_neg (by omega), List.drop_of_length_le (by omega)]
    rfl
  | succ m ih =>
    intro k j e hm hj hk h0 h1 he0 he
    obtain ⟨k, rfl⟩ : ∃ q, k = q + 2 := ⟨k - 2, by omega⟩
    simp only [portholeref09_Right.l0]
    rw [if_pos (by omega), if_pos (by omega), drop_rd ws j (by omega)]
    have hnext : 0 < j + 1 → (rd_T46 ws ((j : Int))).f1 + (rd_T46 ws ((j : Int))).f2 = (rd_T46 ws (((j + 1 : Nat) : Int) - 1)).f1 + (rd_T46 ws (((j + 1 : Nat) : Int) - 1)).f2 := by
      intro _; rw [show ((j + 1 : Nat) : Int) - 1 = (j : Int) from by omega]
    generalize rd_T46 ws (j : Int) = w at hnext
    unfold ok
    simp only [portholeref09_Right.j2]
    have hfalse : ∀ b : Bool, b = true → (if b = true then (some false : Option Bool) else (if (j : Int) > 0 then (if 0 ≤ (wrap64 ((j : Int) - 1)) then (if (wrap64 ((j : Int) - 1)) < (ws.length : Int) then (if w.f1 < (wrap64 (((rd_T46 ws (wrap64 ((j : Int) - 1))).f1) + ((rd_T46 ws (wrap64 ((j : Int) - 1))).f2))) then (some false) else (portholeref09_Right.l0 k (wrap64 ((j : Int) + 1)) L ws)) else (none)) else (none)) else (portholeref09_Right.l0 k (wrap64 ((j : Int) + 1)) L ws))) = some false := by
      intro b hb; rw [if_pos hb]
    by_cases c1 : w.f1 < 0
    · rw [if_pos c1, if_pos (show w.f1 < e by omega)]; exact hfalse true rfl
    rw [if_neg c1]
    by_cases c2 : w.f1 > 64
    · rw [if_pos c2]
      by_cases d1 : w.f1 < e
      · omega
      rw [if_neg d1]
      by_cases d2 : w.f2 < 1
      · rw [if_pos d2]; exact hfalse true rfl
      rw [if_neg d2, if_pos (show w.f1 > L by omega)]; exact hfalse true rfl
    rw [if_neg c2]
    by_cases c3 : w.f2 < 1
    · rw [if_pos c3, if_pos c3]
      by_cases d1 : w.f1 < e
      · rw [if_pos d1]; exact hfalse true rfl
      · rw [if_neg d1]; exact hfalse true rfl
    rw [if_neg c3, if_neg c3]
    by_cases c4 : w.f2 > 64
    · rw [if_pos c4]
      by_cases d1 : w.f1 < e
      · rw [if_pos d1]; exact hfalse true rfl
      rw [if_neg d1]
      by_cases d2 : w.f1 > L
      · rw [if_pos d2]; exact hfalse true rfl
      rw [if_neg d2, if_pos (show w.f2 > L - w.f1 by omega)]; exact hfalse true rfl
    rw [if_neg c4, show wrap64 (w.f1 + w.f2) = w.f1 + w.f2 from by unfold wrap64; omega]
    by_cases c5 : w.f1 + w.f2 > L
    · rw [if_pos (decide_eq_true c5)]
      by_cases d1 : w.f1 < e
      · rw [if_pos d1]
      rw [if_neg d1]
      by_cases d2 : w.f1 > L
      · rw [if_pos d2]
      rw [if_neg d2, if_pos (by omega)]
    rw [if_neg (by simpa using c5)]
    rcases Nat.eq_zero_or_pos j with rfl | hjp
    · rw [if_neg (by omega), if_neg (by omega), if_neg (by omega), if_neg (by omega), wrap_succ 0 (by omega)]
      exact ih k 1 _ (by omega) (by omega) (by omega) (by omega) (by omega) (by omega) hnext
    · have hw : wrap64 ((j : Int) - 1) = (j : Int) - 1 := by unfold wrap64; omega
      rw [if_pos (by omega), hw, if_pos (by omega), if_pos (by omega), ← he hjp, show wrap64 e = e from by unfold wrap64; omega]
      by_cases d1 : w.f1 < e
      · rw [if_pos d1, if_pos d1]
      rw [if_neg d1, if_neg d1, if_neg (by omega), if_neg (by omega), wrap_succ j (by omega)]
      exact ih k (j + 1) _ (by omega) (by omega) (by omega) (by omega) (by omega) (by omega) hnext

theorem RefRight_eq (k : Nat) (hk : 40 < k) (L : Int) (ws : List S46) : portholeref09_Right.f k L ws = some (right L ws) := by
  obtain ⟨k, rfl⟩ : ∃ q, k = q + 1 := ⟨k - 1, by omega⟩
  unfold portholeref09_Right.f right
  by_cases c1 : L < 1
  · rw [if_pos c1, if_pos c1]; simp only [portholeref09_Right.j0]; rfl
  rw [if_neg c1, if_neg c1]
  by_cases c2 : L > 64
  · rw [if_pos c2, if_pos c2]; simp only [portholeref09_Right.j0]; rfl
  rw [if_neg c2, if_neg c2]
  simp only [portholeref09_Right.j0]
  by_cases c3 : (ws.length : Int) > 16
  · rw [if_pos (decide_eq_true c3), if_pos c3]
  rw [if_neg (by simpa using c3), if_neg c3]
  exact ref_l0 L (by omega) ws (by omega) ws.length k 0 0 (by omega) (by omega) (by omega) (by omega) (by omega) (fun _ => rfl) (by omega)

theorem ok_cons {L e : Int} {w : S46} {r : List S46} (h : ok L e (w :: r) = true) : e ≤ w.f1 ∧ 1 ≤ w.f2 ∧ w.f1 + w.f2 ≤ L ∧ ok L (w.f1 + w.f2) r = true := by
  unfold ok at h
  by_cases c1 : w.f1 < e
  · rw [if_pos c1] at h; cases h
  rw [if_neg c1] at h
  by_cases c2 : w.f2 < 1
  · rw [if_pos c2] at h; cases h
  rw [if_neg c2] at h
  by_cases c3 : w.f1 > L
  · rw [if_pos c3] at h; cases h
  rw [if_neg c3] at h
  by_cases c4 : w.f2 > L - w.f1
  · rw [if_pos c4] at h; cases h
  rw [if_neg c4] at h
  exact ⟨by omega, by omega, by omega, h⟩
theorem right_true {L : Int} {ws : List S46} (h : right L ws = true) : 1 ≤ L ∧ L ≤ 64 ∧ ws.length ≤ 16 ∧ ok L 0 ws = true := by
  unfold right at h
  by_cases c1 : L < 1
  · rw [if_pos c1] at h; cases h
  rw [if_neg c1] at h
  by_cases c2 : L > 64
  · rw [if_pos c2] at h; cases h
  rw [if_neg c2] at h
  by_cases c3 : (ws.length : Int) > 16
  · rw [if_pos c3] at h; cases h
  rw [if_neg c3] at h
  exact ⟨by omega, by omega, by omega, h⟩

/-- A tick that may be asked for. -/
def may (L : Int) (ws : List S46) (t : Int) : Bool := if t < 0 then false else if t > 1099511627776 then false else right L ws
theorem may_true {L : Int} {ws : List S46} {t : Int} (h : may L ws t = true) : 0 ≤ t ∧ t ≤ 1099511627776 ∧ right L ws = true := by
  unfold may at h
  by_cases c1 : t < 0
  · rw [if_pos c1] at h; cases h
  rw [if_neg c1] at h
  by_cases c2 : t > 1099511627776
  · rw [if_pos c2] at h; cases h
  rw [if_neg c2] at h
  exact ⟨by omega, by omega, h⟩
theorem may_of {L : Int} {ws : List S46} {t : Int} (h0 : 0 ≤ t) (h1 : t ≤ 1099511627776) (h : right L ws = true) : may L ws t = true := by
  unfold may; rw [if_neg (by omega), if_neg (by omega), h]

theorem place_eq (k : Nat) (hk : 20 < k) (L : Int) (ws : List S46) (t : Int) : frame_place.f k L ws t = some (if may L ws t = true then (t % L, true) else (0, false)) := by
  unfold frame_place.f may
  by_cases c1 : t < 0
  · rw [if_pos c1, if_pos c1]; rfl
  rw [if_neg c1, if_neg c1]
  by_cases c2 : t > 1099511627776
  · rw [if_pos c2, if_pos c2]; rfl
  rw [if_neg c2, if_neg c2, Right_eq k hk]
  simp only [Option.bind_some]
  by_cases h : right L ws = true
  · have := right_true h
    rw [if_pos h, if_pos h, if_neg (by omega), Int.tmod_eq_emod_of_nonneg (by omega)]
  · rw [if_neg h, if_neg h]
theorem tick_eq (k : Nat) (hk : 40 < k) (L : Int) (ws : List S46) (t : Int) : portholeref09_tick.f k L ws t = some (may L ws t) := by
  unfold portholeref09_tick.f may
  by_cases c1 : t < 0
  · rw [if_neg (by omega), if_pos c1]
  rw [if_pos (by omega), if_neg c1]
  by_cases c2 : t > 1099511627776
  · rw [if_neg (by omega), if_pos c2]
  rw [if_pos (by omega), if_neg c2, RefRight_eq k hk]
  rfl

/-- The first window that is open at a place; the first that starts there. -/
def fAt (p : Int) : List S46 → Int × Bool
  | [] => (0, false)
  | w :: r => if w.f1 ≤ p then (if p < w.f1 + w.f2 then (w.f0, true) else fAt p r) else fAt p r
def fEn (p : Int) : List S46 → Int × Bool
  | [] => (0, false)
  | w :: r => if p = w.f1 then (w.f0, true) else fEn p r
def At (L : Int) (ws : List S46) (t : Int) : Int × Bool := if may L ws t = true then fAt (t % L) ws else (0, false)
def En (L : Int) (ws : List S46) (t : Int) : Int × Bool := if may L ws t = true then fEn (t % L) ws else (0, false)

theorem ok_drop {L : Int} (ws : List S46) : ∀ (j : Nat) (e : Int), 0 ≤ e → ok L e ws = true → ∃ e', 0 ≤ e' ∧ ok L e' (ws.drop j) = true := by
  induction ws with
  | nil => intro j e h0 h; exact ⟨e, h0, by simpa using h⟩
  | cons w r ih =>
    intro j e h0 h
    cases j with
    | zero => exact ⟨e, h0, h⟩
    | succ j =>
      obtain ⟨h1, h2, h3, h4⟩ := ok_cons h
      exact ih j _ (by omega) h4

theorem At_l0 (L : Int) (hL : L ≤ 64) (p : Int) (ws : List S46) (hlen : ws.length ≤ 16) (hok : ok L 0 ws = true) (m : Nat) : ∀ (k j : Nat), ws.length - j = m → j ≤ ws.length → m < k →
    frame_At.l0 k p ws (ws.length : Int) (j : Int) = some (fAt p (ws.drop j)) := by
  induction m with
  | zero =>
    intro k j hm hj hk
    obtain ⟨k, rfl⟩ : ∃ q, k = q + 1 := ⟨k - 1, by omega⟩
    simp only [frame_At.l0]
    rw [if_neg (by omega), List.drop_of_length_le (by omega)]
    rfl
  | succ m ih =>
    intro k j hm hj hk
    obtain ⟨k, rfl⟩ : ∃ q, k = q + 1 := ⟨k - 1, by omega⟩
    simp only [frame_At.l0]
    obtain ⟨e, he, ho⟩ := ok_drop ws j 0 (by omega) hok
    have hi := ih k (j + 1) (by omega) (by omega) (by omega)
    rw [if_pos (by omega), if_pos (by omega), if_pos (by omega)]
    rw [drop_rd ws j (by omega)] at ho ⊢
    rw [wrap_succ j (by omega)]
    generalize rd_T46 ws (j : Int) = w at ho ⊢
    obtain ⟨h1, h2, h3, _⟩ := ok_cons ho
    rw [show wrap64 (w.f1 + w.f2) = w.f1 + w.f2 from by unfold wrap64; omega]
    unfold fAt
    by_cases c1 : w.f1 ≤ p
    · rw [if_pos (show p ≥ w.f1 from c1), if_pos c1]
      by_cases c2 : p < w.f1 + w.f2
      · rw [if_pos c2, if_pos c2]
      · rw [if_neg c2, if_neg c2]; exact hi
    · rw [if_neg (show ¬ p ≥ w.f1 from c1), if_neg c1]; exact hi
theorem At_eq (k : Nat) (hk : 20 < k) (L : Int) (ws : List S46) (t : Int) : frame_At.f k L ws t = some (At L ws t) := by
  unfold frame_At.f At
  rw [place_eq k hk]
  simp only [Option.bind_some]
  by_cases h : may L ws t = true
  · rw [if_pos h, if_pos h]
    obtain ⟨_, _, hr⟩ := may_true h
    obtain ⟨_, h2, h3, h4⟩ := right_true hr
    exact At_l0 L h2 (t % L) ws h3 h4 ws.length k 0 (by omega) (by omega) (by omega)
  · rw [if_neg h, if_neg h]; rfl

theorem En_l0 (p : Int) (ws : List S46) (hlen : ws.length ≤ 16) (m : Nat) : ∀ (k j : Nat), ws.length - j = m → j ≤ ws.length → m < k →
    frame_Enters.l0 k p ws (ws.length : Int) (j : Int) = some (fEn p (ws.drop j)) := by
  induction m with
  | zero =>
    intro k j hm hj hk
    obtain ⟨k, rfl⟩ : ∃ q, k = q + 1 := ⟨k - 1, by omega⟩
    simp only [frame_Enters.l0]
    rw [if_neg (by omega), List.drop_of_length_le (by omega)]
    rfl
  | succ m ih =>
    intro k j hm hj hk
    obtain ⟨k, rfl⟩ : ∃ q, k = q + 1 := ⟨k - 1, by omega⟩
    simp only [frame_Enters.l0]
    have hi := ih k (j + 1) (by omega) (by omega) (by omega)
    rw [if_pos (by omega), if_pos (by omega), if_pos (by omega), drop_rd ws j (by omega), wrap_succ j (by omega)]
    unfold fEn
    by_cases c1 : p = (rd_T46 ws (j : Int)).f1
    · rw [if_pos c1, if_pos c1]
    · rw [if_neg c1, if_neg c1]; exact hi
theorem En_eq (k : Nat) (hk : 20 < k) (L : Int) (ws : List S46) (t : Int) : frame_Enters.f k L ws t = some (En L ws t) := by
  unfold frame_Enters.f En
  rw [place_eq k hk]
  simp only [Option.bind_some]
  by_cases h : may L ws t = true
  · rw [if_pos h, if_pos h]
    obtain ⟨_, _, hr⟩ := may_true h
    obtain ⟨_, h2, h3, h4⟩ := right_true hr
    exact En_l0 (t % L) ws h3 ws.length k 0 (by omega) (by omega) (by omega)
  · rw [if_neg h, if_neg h]; rfl

/-- The reference's place of the window that is open; -1: none. -/
def idx (p : Int) : Int → List S46 → Int
  | _, [] => -1
  | i, w :: r => if w.f1 ≤ p then (if p < w.f1 + w.f2 then i else idx p (i + 1) r) else idx p (i + 1) r
theorem refat_l0 (L : Int) (hL1 : 1 ≤ L) (hL : L ≤ 64) (t : Int) (ht : 0 ≤ t) (ws : List S46) (hlen : ws.length ≤ 16) (hok : ok L 0 ws = true) (m : Nat) : ∀ (k j : Nat), ws.length - j = m → j ≤ ws.length → m < k →
    portholeref09_at.l0 k t (j : Int) L ws = some (idx (t % L) j (ws.drop j)) := by
  induction m with
  | zero =>
    intro k j hm hj hk
    obtain ⟨k, rfl⟩ : ∃ q, k = q + 1 := ⟨k - 1, by omega⟩
    simp only [portholeref09_at.l0]
    rw [if_neg (by omega), List.drop_of_length_le (by omega)]
    rfl
  | succ m ih =>
    intro k j hm hj hk
    obtain ⟨k, rfl⟩ : ∃ q, k = q + 1 := ⟨k - 1, by omega⟩
    simp only [portholeref09_at.l0]
    obtain ⟨e, he, ho⟩ := ok_drop ws j 0 (by omega) hok
    have hi := ih k (j + 1) (by omega) (by omega) (by omega)
    rw [if_pos (by omega), if_neg (by omega), if_pos (by omega)]
    rw [drop_rd ws j (by omega)] at ho ⊢
    rw [wrap_succ j (by omega), Int.tmod_eq_emod_of_nonneg ht]
    generalize rd_T46 ws (j : Int) = w at ho ⊢
    obtain ⟨h1, h2, h3, _⟩ := ok_cons ho
    have hm0 := Int.emod_nonneg t (show L ≠ 0 by omega)
    have hm1 := Int.emod_lt_of_pos t (show 0 < L by omega)
    rw [show wrap64 (t % L - w.f1) = t % L - w.f1 from by unfold wrap64; omega]
    unfold idx
    by_cases c1 : w.f1 ≤ t % L
    · rw [if_pos c1, if_pos c1]
      by_cases c2 : t % L < w.f1 + w.f2
      · rw [if_pos (show t % L - w.f1 < w.f2 by omega), if_pos c2]
      · rw [if_neg (show ¬ t % L - w.f1 < w.f2 by omega), if_neg c2]; exact hi
    · rw [if_neg c1, if_neg c1]; exact hi
theorem refat_eq (k : Nat) (hk : 40 < k) (L : Int) (ws : List S46) (t : Int) : portholeref09_at.f k L ws t = some (if may L ws t = true then idx (t % L) 0 ws else -1) := by
  unfold portholeref09_at.f
  rw [tick_eq k hk]
  simp only [Option.bind_some]
  by_cases h : may L ws t = true
  · rw [if_pos h, if_pos h]
    obtain ⟨h0, _, hr⟩ := may_true h
    obtain ⟨h1, h2, h3, h4⟩ := right_true hr
    exact refat_l0 L h1 h2 t h0 ws h3 h4 ws.length k 0 (by omega) (by omega) (by omega)
  · rw [if_neg h, if_neg h]
theorem idx_tells (p : Int) (ws : List S46) : ∀ (m j : Nat), ws.length - j = m → j ≤ ws.length → (idx p j (ws.drop j) = -1 ∧ fAt p (ws.drop j) = (0, false)) ∨
    (∃ i : Nat, j ≤ i ∧ i < ws.length ∧ idx p j (ws.drop j) = (i : Int) ∧ fAt p (ws.drop j) = ((rd_T46 ws i).f0, true) ∧ (rd_T46 ws i).f1 ≤ p ∧ p < (rd_T46 ws i).f1 + (rd_T46 ws i).f2 ) := by
  intro m
  induction m with
  | zero => intro j hm hj; left; rw [List.drop_of_length_le (by omega)]; exact ⟨rfl, rfl⟩
  | succ m ih =>
    intro j hm hj
    have hi := ih (j + 1) (by omega) (by omega)
    rw [drop_rd ws j (by omega)]
    unfold idx fAt
    rw [show ((j + 1 : Nat) : Int) = (j : Int) + 1 from by omega] at hi
    by_cases c1 : (rd_T46 ws (j : Int)).f1 ≤ p
    · rw [if_pos c1, if_pos c1]
      by_cases c2 : p < (rd_T46 ws (j : Int)).f1 + (rd_T46 ws (j : Int)).f2
      · rw [if_pos c2, if_pos c2]; right; exact ⟨j, by omega, by omega, rfl, rfl, c1, c2⟩
      · rw [if_neg c2, if_neg c2]
        rcases hi with hi | ⟨i, h1, h2⟩
        · exact .inl hi
        · exact .inr ⟨i, by omega, h2⟩
    · rw [if_neg c1, if_neg c1]
      rcases hi with hi | ⟨i, h1, h2⟩
      · exact .inl hi
      · exact .inr ⟨i, by omega, h2⟩
theorem RefAt_eq (k : Nat) (hk : 40 < k) (L : Int) (ws : List S46) (t : Int) : portholeref09_At.f k L ws t = some (At L ws t) := by
  unfold portholeref09_At.f At
  rw [refat_eq k hk]
  simp only [Option.bind_some]
  by_cases h : may L ws t = true
  · rw [if_pos h, if_pos h]
    rcases idx_tells (t % L) ws ws.length 0 (by omega) (by omega) with ⟨h1, h2⟩ | ⟨i, h1, h2, h3, h4, _⟩
    · simp only [List.drop_zero, Int.natCast_zero] at h1 h2
      rw [h1, h2, if_pos (by omega)]
    · simp only [List.drop_zero, Int.natCast_zero] at h3 h4
      rw [h3, h4, if_neg (by omega), if_pos (by omega), if_pos (by omega)]
  · rw [if_neg h, if_neg h, if_pos (by omega)]

/-- Ahead of a place nothing starts. -/
theorem fEn_ahead {L : Int} (p : Int) (ws : List S46) : ∀ e, p < e → ok L e ws = true → fEn p ws = (0, false) := by
  induction ws with
  | nil => intro e _ _; rfl
  | cons w r ih =>
    intro e he h
    obtain ⟨h1, h2, h3, h4⟩ := ok_cons h
    unfold fEn
    rw [if_neg (by omega)]
    exact ih _ (by omega) h4
theorem fAt_ahead {L : Int} (p : Int) (ws : List S46) : ∀ e, p < e → ok L e ws = true → fAt p ws = (0, false) := by
  induction ws with
  | nil => intro e _ _; rfl
  | cons w r ih =>
    intro e he h
    obtain ⟨h1, h2, h3, h4⟩ := ok_cons h
    unfold fAt
    rw [if_neg (by omega)]
    exact ih _ (by omega) h4
/-- What the reference says of who is entered. -/
theorem fEn_idx {L : Int} (p : Int) (ws : List S46) : ∀ (m j : Nat), ws.length - j = m → j ≤ ws.length → ∀ e, ok L e (ws.drop j) = true →
    fEn p (ws.drop j) = (if idx p j (ws.drop j) < 0 then (0, false) else if (rd_T46 ws (idx p j (ws.drop j))).f1 = p then ((rd_T46 ws (idx p j (ws.drop j))).f0, true) else (0, false)) := by
  intro m
  induction m with
  | zero => intro j hm hj e _; rw [List.drop_of_length_le (by omega)]; rfl
  | succ m ih =>
    intro j hm hj e ho
    rw [drop_rd ws j (by omega)] at ho ⊢
    obtain ⟨h1, h2, h3, h4⟩ := ok_cons ho
    have hi := ih (j + 1) (by omega) (by omega) _ h4
    rw [show ((j + 1 : Nat) : Int) = (j : Int) + 1 from by omega] at hi
    unfold idx fEn
    by_cases c1 : (rd_T46 ws (j : Int)).f1 ≤ p
    · rw [if_pos c1]
      by_cases c2 : p < (rd_T46 ws (j : Int)).f1 + (rd_T46 ws (j : Int)).f2
      · rw [if_pos c2, if_neg (show ¬ (j : Int) < 0 by omega)]
        by_cases c3 : p = (rd_T46 ws (j : Int)).f1
        · rw [if_pos c3, if_pos c3.symm]
        · rw [if_neg c3, if_neg (fun h => c3 h.symm)]
          exact fEn_ahead p _ _ (by omega) h4
      · rw [if_neg c2, if_neg (show ¬ p = (rd_T46 ws (j : Int)).f1 by omega)]; exact hi
    · rw [if_neg c1, if_neg (show ¬ p = (rd_T46 ws (j : Int)).f1 by omega)]; exact hi
theorem RefEn_eq (k : Nat) (hk : 40 < k) (L : Int) (ws : List S46) (t : Int) : portholeref09_Enters.f k L ws t = some (En L ws t) := by
  unfold portholeref09_Enters.f En
  rw [refat_eq k hk]
  simp only [Option.bind_some]
  by_cases h : may L ws t = true
  · rw [if_pos h, if_pos h]
    obtain ⟨h0, _, hr⟩ := may_true h
    obtain ⟨g1, g2, g3, g4⟩ := right_true hr
    have he := fEn_idx (t % L) ws ws.length 0 (by omega) (by omega) 0 (by simpa using g4)
    rcases idx_tells (t % L) ws ws.length 0 (by omega) (by omega) with ⟨h1, _⟩ | ⟨i, h1, h2, h3, _⟩
    · simp only [List.drop_zero, Int.natCast_zero] at h1 he
      rw [h1] at he ⊢
      rw [he]; rfl
    · simp only [List.drop_zero, Int.natCast_zero] at h3 he
      rw [h3] at he ⊢
      rw [he, Int.tmod_eq_emod_of_nonneg h0, if_neg (show ¬ (i : Int) < 0 by omega), if_pos (by omega), if_pos (by omega), if_neg (by omega), if_neg (show ¬ (i : Int) < 0 by omega)]
      by_cases c : (rd_T46 ws (i : Int)).f1 = t % L
      · rw [if_pos c, if_pos c]
      · rw [if_neg c, if_neg c]
  · rw [if_neg h, if_neg h, if_pos (by omega)]
end Go.Proofs.Ytndmdlnmjamgkaa.Frame
