import Derived.Test.YtndmdlnmjamgkaaFrameTurnsLaw
import Derived.Test.YtndmdlnmjamgkaaPFx6
/- FrameShare: counting a frame's ticks. -/
namespace Go.Proofs.Ytndmdlnmjamgkaa.Frame
open Go.RowKit Go.Proofs.YtndmdlnmjamgkaaW.PrintWords Go.Proofs.Ytndmdlnmjamgkaa.PF Go.Proofs.Ytndmdlnmjamgkaa.Opn

def cnt (G : Int → Int) : Int → Nat → Int
  | _, 0 => 0
  | u, n + 1 => G u + cnt G (u + 1) n
theorem cnt_split (G : Int → Int) (m : Nat) : ∀ (u : Int) (n : Nat), cnt G u (m + n) = cnt G u m + cnt G (u + m) n := by
  induction m with
  | zero => intro u n; simp [cnt]
  | succ m ih =>
    intro u n
    rw [show m + 1 + n = (m + n) + 1 from by omega]
    simp only [cnt]
    rw [ih, show u + 1 + (m : Int) = u + ((m + 1 : Nat) : Int) from by omega]
    omega
theorem cnt_const (G : Int → Int) (c : Int) (n : Nat) : ∀ u : Int, (∀ i, u ≤ i → i < u + n → G i = c) → cnt G u n = n * c := by
  induction n with
  | zero => intro u _; simp [cnt]
  | succ n ih =>
    intro u h
    simp only [cnt]
    rw [h u (by omega) (by omega), ih (u + 1) (fun i h1 h2 => h i (by omega) (by omega))]
    rw [show ((n + 1 : Nat) : Int) = (n : Int) + 1 from by omega, Int.add_mul]
    omega
theorem cnt_congr (G G' : Int → Int) (n : Nat) : ∀ u : Int, (∀ i, u ≤ i → i < u + n → G i = G' i) → cnt G u n = cnt G' u n := by
  induction n with
  | zero => intro u _; rfl
  | succ n ih =>
    intro u h
    simp only [cnt]
    rw [h u (by omega) (by omega), ih (u + 1) (fun i h1 h2 => h i (by omega) (by omega))]
theorem cnt_turn (G : Int → Int) (L : Nat) (hp : ∀ i, 0 ≤ i → G (i + L) = G i) (u : Nat) : cnt G u L = cnt G 0 L := by
  induction u with
  | zero => rfl
  | succ u ih =>
    have h1 := cnt_split G L (u : Int) 1
    have h2 : cnt G (u : Int) (L + 1) = G u + cnt G ((u : Int) + 1) L := rfl
    have h3 : cnt G ((u : Int) + L) 1 = G ((u : Int) + L) + 0 := rfl
    rw [hp u (by omega)] at h3
    rw [show ((u + 1 : Nat) : Int) = (u : Int) + 1 from by omega]
    omega

def isP (part : Int) (r : Int × Bool) : Int := if r.2 = true then (if r.1 = part then 1 else 0) else 0
/-- The ticks and the number of a partition's windows. -/
def SL (part : Int) : List S46 → Int
  | [] => 0
  | w :: r => (if w.f0 = part then w.f2 else 0) + SL part r
def SN (part : Int) : List S46 → Int
  | [] => 0
  | w :: r => (if w.f0 = part then 1 else 0) + SN part r

theorem open_count (L part : Int) (ws : List S46) : ∀ e : Int, e ≤ L → ok L e ws = true → cnt (fun p => isP part (fAt p ws)) e (L - e).toNat = SL part ws := by
  induction ws with
  | nil =>
    intro e he _
    rw [cnt_const (fun p => isP part (fAt p [])) 0 _ e (fun i _ _ => rfl)]; simp [SL]
  | cons w r ih =>
    intro e he h
    obtain ⟨h1, h2, h3, h4⟩ := ok_cons h
    rw [show (L - e).toNat = (w.f1 - e).toNat + (w.f2.toNat + (L - (w.f1 + w.f2)).toNat) from by omega, cnt_split, cnt_split]
    rw [cnt_const _ 0 _ e (fun i i1 i2 => by
      show isP part (fAt i (w :: r)) = 0
      rw [show fAt i (w :: r) = (0, false) from by
        unfold fAt; rw [if_neg (by omega)]; exact fAt_ahead i r _ (by omega) h4]; rfl)]
    rw [show e + ((w.f1 - e).toNat : Int) = w.f1 from by omega]
    rw [cnt_const _ (if w.f0 = part then 1 else 0) _ w.f1 (fun i i1 i2 => by
      show isP part (fAt i (w :: r)) = _
      rw [show fAt i (w :: r) = (w.f0, true) from by unfold fAt; rw [if_pos (by omega), if_pos (by omega)]]; rfl)]
    rw [show w.f1 + (w.f2.toNat : Int) = w.f1 + w.f2 from by omega]
    rw [cnt_congr _ (fun p => isP part (fAt p r)) _ (w.f1 + w.f2) (fun i i1 i2 => by
      show isP part (fAt i (w :: r)) = _
      rw [show fAt i (w :: r) = fAt i r from by unfold fAt; rw [if_pos (by omega), if_neg (by omega)]; cases r <;> rfl])]
    rw [ih _ h3 h4]
    simp only [SL]
    by_cases c : w.f0 = part
    · rw [if_pos c, if_pos c]; omega
    · rw [if_neg c, if_neg c]; omega
theorem in_count (L part : Int) (ws : List S46) : ∀ e : Int, e ≤ L → ok L e ws = true → cnt (fun p => isP part (fEn p ws)) e (L - e).toNat = SN part ws := by
  induction ws with
  | nil =>
    intro e he _
    rw [cnt_const (fun p => isP part (fEn p [])) 0 _ e (fun i _ _ => rfl)]; simp [SN]
  | cons w r ih =>
    intro e he h
    obtain ⟨h1, h2, h3, h4⟩ := ok_cons h
    rw [show (L - e).toNat = (w.f1 - e).toNat + (1 + ((w.f2 - 1).toNat + (L - (w.f1 + w.f2)).toNat)) from by omega, cnt_split, cnt_split, cnt_split]
    rw [cnt_const _ 0 _ e (fun i i1 i2 => by
      show isP part (fEn i (w :: r)) = 0
      rw [show fEn i (w :: r) = (0, false) from by
        unfold fEn; rw [if_neg (by omega)]; exact fEn_ahead i r _ (by omega) h4]; rfl)]
    rw [show e + ((w.f1 - e).toNat : Int) = w.f1 from by omega]
    rw [cnt_const _ (if w.f0 = part then 1 else 0) 1 w.f1 (fun i i1 i2 => by
      show isP part (fEn i (w :: r)) = _
      rw [show fEn i (w :: r) = (w.f0, true) from by unfold fEn; rw [if_pos (by omega)]]; rfl)]
    rw [cnt_const _ 0 (w.f2 - 1).toNat (w.f1 + ((1 : Nat) : Int)) (fun i i1 i2 => by
      show isP part (fEn i (w :: r)) = _
      rw [show fEn i (w :: r) = (0, false) from by unfold fEn; rw [if_neg (by omega)]; exact fEn_ahead i r _ (by omega) h4]; rfl)]
    rw [show w.f1 + ((1 : Nat) : Int) + ((w.f2 - 1).toNat : Int) = w.f1 + w.f2 from by omega]
    rw [cnt_congr _ (fun p => isP part (fEn p r)) _ (w.f1 + w.f2) (fun i i1 i2 => by
      show isP part (fEn i (w :: r)) = _
      rw [show fEn i (w :: r) = fEn i r from by unfold fEn; rw [if_neg (by omega)]; cases r <;> rfl])]
    rw [ih _ h3 h4]
    simp only [SN]
    by_cases c : w.f0 = part
    · rw [if_pos c]; omega
    · rw [if_neg c]; omega

theorem Share_l1 (L part : Int) (hL : L ≤ 64) (ws : List S46) (hlen : ws.length ≤ 16) (hok : ok L 0 ws = true) (m : Nat) : ∀ (k j : Nat) (x y : Int), ws.length - j = m → j ≤ ws.length → m < k →
    x = SL part (ws.drop j) → y = SN part (ws.drop j) → 0 ≤ x → x ≤ 64 → 0 ≤ y → y ≤ 64 →
    portholelaw09_FrameShare.l1 k part x y ws (ws.length : Int) (j : Int) = some true := by
  induction m with
  | zero =>
    intro k j x y hm hj hk hx hy _ _ _ _
    obtain ⟨k, rfl⟩ : ∃ q, k = q + 1 := ⟨k - 1, by omega⟩
    simp only [portholelaw09_FrameShare.l1]
    rw [List.drop_of_length_le (by omega)] at hx hy
    rw [if_neg (by omega), if_pos (show x = 0 from hx), show y = 0 from hy]
    rfl
  | succ m ih =>
    intro k j x y hm hj hk hx hy x0 x1 y0 y1
    obtain ⟨k, rfl⟩ : ∃ q, k = q + 1 := ⟨k - 1, by omega⟩
    obtain ⟨e, he, ho⟩ := ok_drop ws j 0 (by omega) hok
    simp only [portholelaw09_FrameShare.l1]
    rw [if_pos (by omega), if_pos (by omega), if_pos (by omega), wrap_succ j (by omega)]
    rw [drop_rd ws j (by omega)] at hx hy ho
    obtain ⟨h1, h2, h3, h4⟩ := ok_cons ho
    have pos : ∀ l : List S46, ∀ e, 0 ≤ e → ok L e l = true → 0 ≤ SL part l ∧ 0 ≤ SN part l := by
      intro l
      induction l with
      | nil => intro e _ _; simp [SL, SN]
      | cons w r ih2 =>
        intro e e0 h
        obtain ⟨g1, g2, g3, g4⟩ := ok_cons h
        have := ih2 _ (by omega) g4
        simp only [SL, SN]
        constructor <;> split <;> omega
    have hp := pos (ws.drop (j + 1)) _ (by omega) h4
    simp only [SL] at hx
    simp only [SN] at hy
    by_cases c : (rd_T46 ws (j : Int)).f0 = part
    · rw [if_pos c] at hx hy ⊢
      rw [show wrap64 (x - (rd_T46 ws (j : Int)).f2) = x - (rd_T46 ws (j : Int)).f2 from by unfold wrap64; omega, show wrap64 (y - 1) = y - 1 from by unfold wrap64; omega]
      exact ih k (j + 1) _ _ (by omega) (by omega) (by omega) (by omega) (by omega) (by omega) (by omega) (by omega) (by omega)
    · rw [if_neg c] at hx hy ⊢
      exact ih k (j + 1) _ _ (by omega) (by omega) (by omega) (by omega) (by omega) (by omega) (by omega) (by omega) (by omega)
theorem isP_01 (part : Int) (r : Int × Bool) : 0 ≤ isP part r ∧ isP part r ≤ 1 := by unfold isP; split <;> (try split) <;> omega
theorem Share_l0 (L part fr : Int) (hL1 : 1 ≤ L) (hL : L ≤ 64) (hf : 0 ≤ fr) (hf2 : fr ≤ 549755813888) (ws : List S46) (k : Nat) (hk : 20 < k) (n : Nat) : ∀ (t x y : Int), fr ≤ t → fr + L - t = (n : Int) → 0 ≤ x → x + n ≤ 64 → 0 ≤ y → y + n ≤ 64 →
    portholelaw09_FrameShare.l0 (k + 2 * n + 1) part fr x y t L ws = portholelaw09_FrameShare.l1 k part (x + cnt (fun q => isP part (At L ws q)) t n) (y + cnt (fun q => isP part (En L ws q)) t n) ws (ws.length : Int) 0 := by
  induction n with
  | zero =>
    intro t x y ht hn x0 x1 y0 y1
    rw [Nat.mul_zero, Nat.add_zero]
    simp only [portholelaw09_FrameShare.l0]
    rw [show wrap64 (fr + L) = fr + L from by unfold wrap64; omega, if_neg (by omega)]
    simp [cnt]
  | succ n ih =>
    intro t x y ht hn x0 x1 y0 y1
    have ha := isP_01 part (At L ws t)
    have hb := isP_01 part (En L ws t)
    have hi := ih (t + 1) (x + isP part (At L ws t)) (y + isP part (En L ws t)) (by omega) (by omega) (by omega) (by omega) (by omega) (by omega)
    rw [show k + 2 * (n + 1) + 1 = (k + 2 * n + 1) + 1 + 1 from by omega]
    generalize hK : k + 2 * n + 1 = K at hi ⊢
    simp only [portholelaw09_FrameShare.l0]
    rw [show wrap64 (fr + L) = fr + L from by unfold wrap64; omega, if_pos (by omega), At_eq (K + 1) (by omega)]
    simp only [Option.bind_some, cnt]
    rw [Int.add_assoc, Int.add_assoc] at hi
    rw [← hi]
    have hw : wrap64 (t + 1) = t + 1 := by unfold wrap64; omega
    have hx1 : wrap64 (x + 1) = x + 1 := by unfold wrap64; omega
    have hy1 : wrap64 (y + 1) = y + 1 := by unfold wrap64; omega
    have key : ∀ b : Bool, isP part (At L ws t) = (if b = true then 1 else 0) → portholelaw09_FrameShare.j2 (K + 1) part fr x y t b L ws = portholelaw09_FrameShare.l0 K part fr (x + isP part (At L ws t)) (y + isP part (En L ws t)) (t + 1) L ws := by
      intro b hb2
      rw [hb2]
      simp only [portholelaw09_FrameShare.j2]
      rw [En_eq K (by omega)]
      simp only [Option.bind_some]
      rw [hw, hx1, hy1]
      unfold isP
      cases b
      · simp only [Bool.false_eq_true, if_false]
        by_cases c : (En L ws t).2 = true
        · rw [if_pos c, if_pos c]
          by_cases d : (En L ws t).1 = part
          · rw [if_pos d, if_pos d, Int.add_zero]
          · rw [if_neg d, if_neg d, Int.add_zero, Int.add_zero]
        · rw [if_neg c, if_neg c, Int.add_zero, Int.add_zero]
      · simp only [if_true]
        by_cases c : (En L ws t).2 = true
        · rw [if_pos c, if_pos c]
          by_cases d : (En L ws t).1 = part
          · rw [if_pos d, if_pos d]
          · rw [if_neg d, if_neg d, Int.add_zero]
        · rw [if_neg c, if_neg c, Int.add_zero]
    by_cases c : (At L ws t).2 = true
    · rw [if_pos c]
      exact key _ (by unfold isP; rw [if_pos c]; by_cases d : (At L ws t).1 = part <;> simp [d])
    · rw [if_neg c]
      exact key _ (by unfold isP; rw [if_neg c]; rfl)
theorem FrameShare_true (L : Int) (ws : List S46) (part fr : Int) : portholelaw09_FrameShare.f 200 L ws part fr = some true := by
  unfold portholelaw09_FrameShare.f
  rw [wakes_eq 200 (by omega), RefRight_eq 200 (by omega)]
  simp only [Option.bind_some, if_true]
  have ht : portholelaw09_FrameShare.j0 200 part fr true L ws = some true := rfl
  rw [ht]
  by_cases c1 : (ws.length : Int) > 100
  · rw [if_pos c1]
  rw [if_neg c1]
  by_cases hr : right L ws = true
  · rw [if_pos hr]
    by_cases c2 : fr < 0
    · rw [if_pos c2]
    rw [if_neg c2]
    by_cases c3 : fr > 549755813888
    · rw [decide_eq_true c3]; exact ht
    · rw [decide_eq_false c3]
      obtain ⟨g1, g2, g3, g4⟩ := right_true hr
      obtain ⟨k, hk⟩ : ∃ k : Nat, (200 : Nat) = (k + 2 * L.toNat + 1) + 1 := ⟨198 - 2 * L.toNat, by omega⟩
      rw [hk, portholelaw09_FrameShare.j0, if_neg (by decide), Share_l0 L part fr g1 g2 (by omega) (by omega) ws k (by omega) L.toNat fr 0 0 (by omega) (by omega) (by omega) (by omega) (by omega) (by omega)]
      obtain ⟨q, hq⟩ : ∃ q : Nat, (q : Int) = fr := ⟨fr.toNat, by omega⟩
      obtain ⟨l, hl⟩ : ∃ l : Nat, (l : Int) = L := ⟨L.toNat, by omega⟩
      have hl2 : L.toNat = l := by omega
      have ho : cnt (fun q => isP part (At L ws q)) fr L.toNat = SL part ws := by
        rw [cnt_congr _ (fun q => isP part (fAt (q % L) ws)) _ fr (fun i i1 i2 => by
          show isP part (At L ws i) = _
          unfold At; rw [may_of (by omega) (by omega) hr, if_pos rfl])]
        rw [← hq, hl2, cnt_turn (fun q => isP part (fAt (q % L) ws)) l (fun i i0 => by show isP part (fAt ((i + (l : Int)) % L) ws) = _; rw [hl, Int.add_emod_right]) q]
        rw [cnt_congr _ (fun q => isP part (fAt q ws)) _ 0 (fun i i1 i2 => by
          show isP part (fAt (i % L) ws) = _
          rw [Int.emod_eq_of_lt (by omega) (by omega)])]
        have h := open_count L part ws 0 (by omega) g4
        rw [show (L - 0).toNat = l from by omega] at h
        exact h
      have hi : cnt (fun q => isP part (En L ws q)) fr L.toNat = SN part ws := by
        rw [cnt_congr _ (fun q => isP part (fEn (q % L) ws)) _ fr (fun i i1 i2 => by
          show isP part (En L ws i) = _
          unfold En; rw [may_of (by omega) (by omega) hr, if_pos rfl])]
        rw [← hq, hl2, cnt_turn (fun q => isP part (fEn (q % L) ws)) l (fun i i0 => by show isP part (fEn ((i + (l : Int)) % L) ws) = _; rw [hl, Int.add_emod_right]) q]
        rw [cnt_congr _ (fun q => isP part (fEn q ws)) _ 0 (fun i i1 i2 => by
          show isP part (fEn (i % L) ws) = _
          rw [Int.emod_eq_of_lt (by omega) (by omega)])]
        have h := in_count L part ws 0 (by omega) g4
        rw [show (L - 0).toNat = l from by omega] at h
        exact h
      have b0 : ∀ (G : Int → Int) (n : Nat) (u : Int), (∀ i, 0 ≤ G i ∧ G i ≤ 1) → 0 ≤ cnt G u n ∧ cnt G u n ≤ n := by
        intro G n
        induction n with
        | zero => intro u _; simp [cnt]
        | succ n ih => intro u h; have := ih (u + 1) h; have := h u; simp only [cnt]; omega
      have bo := b0 (fun q => isP part (At L ws q)) L.toNat fr (fun i => isP_01 _ _)
      have bi := b0 (fun q => isP part (En L ws q)) L.toNat fr (fun i => isP_01 _ _)
      refine Share_l1 L part g2 ws g3 g4 ws.length k 0 _ _ (by omega) (by omega) (by omega) ?_ ?_ (by omega) (by omega) (by omega) (by omega)
      · rw [ho, List.drop_zero]; omega
      · rw [hi, List.drop_zero]; omega
  · rw [if_neg hr]
theorem FrameShare_walk (W : World) (cs : Array Value) (x : Int × List S46) (hK : kFrame.K W x (Value.agg cs).cells.toList) (_hV : VI x.1 ∧ (x.2.length ≤ maxLen ∧ ∀ w ∈ x.2, VW w)) (a : Int) (_ha : (Lit.int .i64 a).wf = true) (b : Int) (_hb : (Lit.int .i64 b).wf = true) :
    Calls Try.prog 8 #[.agg cs, .int .i64 a, .int .i64 b] W fun e w' => e = .returned (.bool true) ∧ Below W.heap.size W w' := by
  obtain ⟨A, c, rfl, hl, hr⟩ := kFrame_open hK
  exact portholelaw09_FrameShare.calls 200 x.1 A c x.2 a b true W hr hl (FrameShare_true _ _ _ _)
end Go.Proofs.Ytndmdlnmjamgkaa.Frame
