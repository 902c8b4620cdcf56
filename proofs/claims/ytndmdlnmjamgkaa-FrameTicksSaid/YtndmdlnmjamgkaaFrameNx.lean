import Derived.Test.YtndmdlnmjamgkaaFrameAtLaw
import Derived.Test.YtndmdlnmjamgkaaPFx7
/- The next entry of a partition: the program's search and the reference's come to the same. -/
namespace Go.Proofs.Ytndmdlnmjamgkaa.Frame
open Go.RowKit Go.Proofs.YtndmdlnmjamgkaaW.PrintWords Go.Proofs.Ytndmdlnmjamgkaa.PF Go.Proofs.Ytndmdlnmjamgkaa.Opn

/-- Does a window of the partition start at the place? -/
def hit (p part : Int) : List S46 → Bool
  | [] => false
  | w :: r => if w.f1 = p then (if w.f0 = part then true else hit p part r) else hit p part r
/-- The search, so many ticks on. -/
def nxt (L : Int) (ws : List S46) (part t : Int) : Nat → Int → Int × Bool
  | 0, _ => (0, false)
  | n + 1, d => if hit ((t + d) % L) part ws = true then (t + d, true) else nxt L ws part t n (d + 1)
def Nx (L : Int) (ws : List S46) (part t : Int) : Int × Bool := if may L ws t = true then nxt L ws part t L.toNat 1 else (0, false)

theorem Next_l1 (L : Int) (ws : List S46) (part t d : Int) (hd : 0 ≤ d) (hd2 : d ≤ 64) (ht : 0 ≤ t) (ht2 : t ≤ 1099511627776) (hlen : ws.length ≤ 16) (p : Int) (m : Nat) : ∀ (k j : Nat), ws.length - j = m → j ≤ ws.length →
    frame_Next.l1 (k + m + 1) part t d p ws (ws.length : Int) (j : Int) L ws = (if hit p part (ws.drop j) = true then some (t + d, true) else frame_Next.l0 k part t (d + 1) L ws) := by
  induction m with
  | zero =>
    intro k j hm hj
    simp only [frame_Next.l1]
    rw [if_neg (by omega), List.drop_of_length_le (by omega), show wrap64 (d + 1) = d + 1 from by unfold wrap64; omega]
    rfl
  | succ m ih =>
    intro k j hm hj
    have hi := ih k (j + 1) (by omega) (by omega)
    rw [show k + (m + 1) + 1 = (k + m + 1) + 1 from by omega]
    generalize k + m + 1 = K at hi ⊢
    simp only [frame_Next.l1]
    rw [if_pos (by omega), if_pos (by omega), if_pos (by omega), drop_rd ws j (by omega), wrap_succ j (by omega), hi, show wrap64 (t + d) = t + d from by unfold wrap64; omega]
    generalize rd_T46 ws (j : Int) = w
    rw [show hit p part (w :: ws.drop (j + 1)) = (if w.f1 = p then (if w.f0 = part then true else hit p part (ws.drop (j + 1))) else hit p part (ws.drop (j + 1))) from rfl]
    by_cases c1 : w.f1 = p
    · rw [if_pos c1, if_pos c1]
      by_cases c2 : w.f0 = part
      · rw [if_pos c2, if_pos c2, if_pos rfl]
      · rw [if_neg c2, if_neg c2]
    · rw [if_neg c1, if_neg c1]
theorem Next_l0 (L : Int) (hL : 1 ≤ L) (hL2 : L ≤ 64) (ws : List S46) (part t : Int) (ht : 0 ≤ t) (ht2 : t ≤ 1099511627776) (hlen : ws.length ≤ 16) (n : Nat) : ∀ (k : Nat) (d : Int), 1 ≤ d → L + 1 - d = (n : Int) → n * (ws.length + 2) < k →
    frame_Next.l0 k part t d L ws = some (nxt L ws part t n d) := by
  induction n with
  | zero =>
    intro k d h0 hn hk
    obtain ⟨k, rfl⟩ : ∃ q, k = q + 1 := ⟨k - 1, by omega⟩
    simp only [frame_Next.l0]
    rw [if_neg (by omega)]
    rfl
  | succ n ih =>
    intro k d h0 hn hk
    rw [Nat.succ_mul] at hk
    obtain ⟨k, rfl⟩ : ∃ q, k = q + (ws.length) + 1 + 1 := ⟨k - (ws.length + 2), by omega⟩
    have hi := ih k (d + 1) (by omega) (by omega) (by omega)
    have h1 := Next_l1 L ws part t d (by omega) (by omega) ht ht2 hlen ((t + d) % L) ws.length k 0 (by omega) (by omega)
    simp only [frame_Next.l0]
    rw [if_pos (by omega), if_neg (by omega), show wrap64 (t + d) = t + d from by unfold wrap64; omega, Int.tmod_eq_emod_of_nonneg (by omega)]
    rw [show ((0 : Nat) : Int) = 0 from rfl, List.drop_zero] at h1
    rw [h1, hi]
    unfold nxt
    by_cases c : hit ((t + d) % L) part ws = true
    · rw [if_pos c, if_pos c]
    · rw [if_neg c, if_neg c]; cases n <;> rfl
theorem Next_eq (k : Nat) (hk : 1300 < k) (L : Int) (ws : List S46) (part t : Int) : frame_Next.f k L ws part t = some (Nx L ws part t) := by
  unfold frame_Next.f Nx
  rw [place_eq k (by omega)]
  simp only [Option.bind_some]
  by_cases h : may L ws t = true
  · rw [if_pos h, if_pos h]
    obtain ⟨h0, h1, hr⟩ := may_true h
    obtain ⟨g1, g2, g3, _⟩ := right_true hr
    have hb : L.toNat * (ws.length + 2) ≤ 64 * 18 := Nat.mul_le_mul (by omega) (by omega)
    exact Next_l0 L g1 g2 ws part t h0 h1 g3 L.toNat k 1 (by omega) (by omega) (by omega)
  · rw [if_neg h, if_neg h]; rfl

theorem RefNext_l1 (L : Int) (hL : 1 ≤ L) (ws : List S46) (part t n : Int) (hn : 0 ≤ n) (hn2 : n ≤ 2199023255552) (hlen : ws.length ≤ 16) (m : Nat) : ∀ (k j : Nat), ws.length - j = m → j ≤ ws.length →
    portholeref09_Next.l1 (k + m + 1) part t n (j : Int) L ws = (if hit (n % L) part (ws.drop j) = true then some (n, true) else portholeref09_Next.l0 k part t (n + 1) L ws) := by
  induction m with
  | zero =>
    intro k j hm hj
    simp only [portholeref09_Next.l1]
    rw [if_neg (by omega), List.drop_of_length_le (by omega), show wrap64 (n + 1) = n + 1 from by unfold wrap64; omega]
    rfl
  | succ m ih =>
    intro k j hm hj
    have hi := ih k (j + 1) (by omega) (by omega)
    rw [show k + (m + 1) + 1 = (k + m + 1) + 1 from by omega]
    generalize k + m + 1 = K at hi ⊢
    simp only [portholeref09_Next.l1]
    rw [if_pos (by omega), if_pos (by omega), if_neg (show ¬ L = 0 by omega), drop_rd ws j (by omega), wrap_succ j (by omega), hi, Int.tmod_eq_emod_of_nonneg hn]
    generalize rd_T46 ws (j : Int) = w
    rw [show hit (n % L) part (w :: ws.drop (j + 1)) = (if w.f1 = n % L then (if w.f0 = part then true else hit (n % L) part (ws.drop (j + 1))) else hit (n % L) part (ws.drop (j + 1))) from rfl]
    by_cases c2 : w.f0 = part
    · rw [if_pos c2]
      by_cases c1 : w.f1 = n % L
      · rw [if_pos c1, if_pos c1, if_pos c2, if_pos rfl]
      · rw [if_neg c1, if_neg c1]
    · rw [if_neg c2]
      by_cases c1 : w.f1 = n % L
      · rw [if_pos c1, if_neg c2]
      · rw [if_neg c1]
theorem RefNext_l0 (L : Int) (hL : 1 ≤ L) (hL2 : L ≤ 64) (ws : List S46) (part t : Int) (ht : 0 ≤ t) (ht2 : t ≤ 1099511627776) (hlen : ws.length ≤ 16) (n : Nat) : ∀ (k : Nat) (d : Int), 1 ≤ d → L + 1 - d = (n : Int) → n * (ws.length + 2) < k →
    portholeref09_Next.l0 k part t (t + d) L ws = some (nxt L ws part t n d) := by
  induction n with
  | zero =>
    intro k d h0 hn hk
    obtain ⟨k, rfl⟩ : ∃ q, k = q + 1 := ⟨k - 1, by omega⟩
    simp only [portholeref09_Next.l0]
    rw [show wrap64 (t + L) = t + L from by unfold wrap64; omega, if_neg (by omega)]
    rfl
  | succ n ih =>
    intro k d h0 hn hk
    rw [Nat.succ_mul] at hk
    obtain ⟨k, rfl⟩ : ∃ q, k = q + (ws.length) + 1 + 1 := ⟨k - (ws.length + 2), by omega⟩
    have hi := ih k (d + 1) (by omega) (by omega) (by omega)
    have h1 := RefNext_l1 L hL ws part t (t + d) (by omega) (by omega) hlen ws.length k 0 (by omega) (by omega)
    simp only [portholeref09_Next.l0]
    rw [show wrap64 (t + L) = t + L from by unfold wrap64; omega, if_pos (by omega)]
    rw [show ((0 : Nat) : Int) = 0 from rfl, List.drop_zero, show t + d + 1 = t + (d + 1) from by omega] at h1
    rw [h1, hi]
    unfold nxt
    by_cases c : hit ((t + d) % L) part ws = true
    · rw [if_pos c, if_pos c]
    · rw [if_neg c, if_neg c]; cases n <;> rfl
theorem RefNext_eq (k : Nat) (hk : 1300 < k) (L : Int) (ws : List S46) (part t : Int) : portholeref09_Next.f k L ws part t = some (Nx L ws part t) := by
  unfold portholeref09_Next.f Nx
  rw [tick_eq k (by omega)]
  simp only [Option.bind_some]
  by_cases h : may L ws t = true
  · rw [if_pos h, if_pos h]
    obtain ⟨h0, h1, hr⟩ := may_true h
    obtain ⟨g1, g2, g3, _⟩ := right_true hr
    have hb : L.toNat * (ws.length + 2) ≤ 64 * 18 := Nat.mul_le_mul (by omega) (by omega)
    rw [show wrap64 (t + 1) = t + 1 from by unfold wrap64; omega]
    exact RefNext_l0 L g1 g2 ws part t h0 h1 g3 L.toNat k 1 (by omega) (by omega) (by omega)
  · rw [if_neg h, if_neg h]

theorem nxt_tells (L : Int) (ws : List S46) (part t : Int) (n : Nat) : ∀ d, (nxt L ws part t n d = (0, false) ∧ ∀ q : Int, d ≤ q → q < d + n → hit ((t + q) % L) part ws = false) ∨
    ∃ e : Int, d ≤ e ∧ e < d + n ∧ nxt L ws part t n d = (t + e, true) ∧ hit ((t + e) % L) part ws = true ∧ ∀ q : Int, d ≤ q → q < e → hit ((t + q) % L) part ws = false := by
  induction n with
  | zero => intro d; exact .inl ⟨rfl, fun q h1 h2 => by omega⟩
  | succ n ih =>
    intro d
    unfold nxt
    by_cases c : hit ((t + d) % L) part ws = true
    · rw [if_pos c]; exact .inr ⟨d, by omega, by omega, rfl, c, fun q h1 h2 => by omega⟩
    · rw [if_neg c]
      have cf : hit ((t + d) % L) part ws = false := by simpa using c
      rcases ih (d + 1) with ⟨h1, h2⟩ | ⟨e, h1, h2, h3, h4, h5⟩
      · exact .inl ⟨h1, fun q q1 q2 => by
          by_cases hq : q = d
          · rw [hq]; exact cf
          · exact h2 q (by omega) (by omega)⟩
      · exact .inr ⟨e, by omega, by omega, h3, h4, fun q q1 q2 => by
          by_cases hq : q = d
          · rw [hq]; exact cf
          · exact h5 q (by omega) (by omega)⟩
theorem hit_of_fEn (p : Int) (ws : List S46) : (fEn p ws).2 = true → hit p (fEn p ws).1 ws = true := by
  induction ws with
  | nil => intro h; cases h
  | cons w r ih =>
    intro h
    unfold fEn at h ⊢
    unfold hit
    by_cases c : p = w.f1
    · rw [if_pos c] at *; simp only [if_true]; rw [if_pos c.symm]
    · rw [if_neg c] at *
      rw [if_neg (fun e => c e.symm)]
      exact ih h
end Go.Proofs.Ytndmdlnmjamgkaa.Frame
