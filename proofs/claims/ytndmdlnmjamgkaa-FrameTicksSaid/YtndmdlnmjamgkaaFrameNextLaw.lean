import Derived.Test.YtndmdlnmjamgkaaFrameNx
import Derived.Test.YtndmdlnmjamgkaaPFx8
/- FrameNext: the next entry, and none between. -/
namespace Go.Proofs.Ytndmdlnmjamgkaa.Frame
open Go.RowKit Go.Proofs.YtndmdlnmjamgkaaW.PrintWords Go.Proofs.Ytndmdlnmjamgkaa.PF Go.Proofs.Ytndmdlnmjamgkaa.Opn

theorem Law_l0 (L : Int) (ws : List S46) (part n : Int) (hn : n ≤ 2199023255552) (m : Nat) : ∀ (k : Nat) (u : Int), 0 ≤ u → (n - u).toNat = m → m + 41 < k →
    (∀ q : Int, u ≤ q → q < n → ¬ ((En L ws q).2 = true ∧ (En L ws q).1 = part)) → portholelaw09_FrameNext.l0 k part n u L ws = some true := by
  induction m with
  | zero =>
    intro k u h0 hm hk _
    obtain ⟨k, rfl⟩ : ∃ q, k = q + 1 := ⟨k - 1, by omega⟩
    simp only [portholelaw09_FrameNext.l0]
    rw [if_neg (by omega)]
  | succ m ih =>
    intro k u h0 hm hk h
    obtain ⟨k, rfl⟩ : ∃ q, k = q + 1 := ⟨k - 1, by omega⟩
    have hi := ih k (u + 1) (by omega) (by omega) (by omega) (fun q h1 h2 => h q (by omega) h2)
    simp only [portholelaw09_FrameNext.l0]
    rw [if_pos (by omega), RefEn_eq k (by omega), show wrap64 (u + 1) = u + 1 from by unfold wrap64; omega]
    simp only [Option.bind_some]
    have h1 := h u (by omega) (by omega)
    by_cases c : (En L ws u).2 = true
    · rw [if_pos c, if_neg (fun e => h1 ⟨c, e⟩)]; exact hi
    · rw [if_neg c]; exact hi
theorem FrameNext_true (L : Int) (ws : List S46) (part t : Int) : portholelaw09_FrameNext.f 2000 L ws part t = some true := by
  unfold portholelaw09_FrameNext.f
  rw [wakes_eq 2000 (by omega), Next_eq 2000 (by omega), RefNext_eq 2000 (by omega)]
  simp only [Option.bind_some, if_true]
  by_cases c1 : (ws.length : Int) > 100
  · rw [if_pos c1]
  rw [if_neg c1, show ((Nx L ws part t).2 != (Nx L ws part t).2) = false from by simp]
  obtain ⟨k, hk⟩ : ∃ k : Nat, (2000 : Nat) = (k + 1) + 1 := ⟨1998, rfl⟩
  rw [hk]
  rw [portholelaw09_FrameNext.j0]
  rw [if_neg (by decide)]
  by_cases hm : may L ws t = true
  · obtain ⟨h0, h1, hr⟩ := may_true hm
    obtain ⟨g1, g2, g3, g4⟩ := right_true hr
    unfold Nx
    rw [if_pos hm]
    rcases nxt_tells L ws part t L.toNat 1 with ⟨h, _⟩ | ⟨e, e1, e2, h, _, hb⟩
    · rw [h]; rfl
    · rw [h]
      simp only [if_true]
      rw [if_neg (by omega), show wrap64 (t + e - t) = e from by unfold wrap64; omega, decide_eq_false (by omega)]
      rw [portholelaw09_FrameNext.j1, if_neg (by decide), show wrap64 (t + 1) = t + 1 from by unfold wrap64; omega]
      refine Law_l0 L ws part (t + e) (by omega) (e - 1).toNat k (t + 1) (by omega) (by omega) (by omega) ?_
      rintro q q1 q2 ⟨c, d⟩
      have hf := hb (q - t) (by omega) (by omega)
      rw [show t + (q - t) = q from by omega] at hf
      unfold En at c d
      by_cases hq : may L ws q = true
      · rw [if_pos hq] at c d
        have := hit_of_fEn (q % L) ws c
        rw [d, hf] at this
        cases this
      · rw [if_neg hq] at c; cases c
  · unfold Nx; rw [if_neg hm]; rfl
theorem FrameNext_walk (W : World) (cs : Array Value) (x : Int × List S46) (hK : kFrame.K W x (Value.agg cs).cells.toList) (_hV : VI x.1 ∧ (x.2.length ≤ maxLen ∧ ∀ w ∈ x.2, VW w)) (a : Int) (_ha : (Lit.int .i64 a).wf = true) (b : Int) (_hb : (Lit.int .i64 b).wf = true) :
    Calls Try.prog 9 #[.agg cs, .int .i64 a, .int .i64 b] W fun e w' => e = .returned (.bool true) ∧ Below W.heap.size W w' := by
  obtain ⟨A, c, rfl, hl, hr⟩ := kFrame_open hK
  exact portholelaw09_FrameNext.calls 2000 x.1 A c x.2 a b true W hr hl (FrameNext_true _ _ _ _)
end Go.Proofs.Ytndmdlnmjamgkaa.Frame
