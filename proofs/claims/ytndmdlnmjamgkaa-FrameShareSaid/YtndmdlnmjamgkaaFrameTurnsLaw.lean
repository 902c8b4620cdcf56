import Derived.Test.YtndmdlnmjamgkaaFrameAtLaw
import Derived.Test.YtndmdlnmjamgkaaPFx5
/- FrameTurns: a tick's place, and a frame's length later the same place; who is entered has its time. -/
namespace Go.Proofs.Ytndmdlnmjamgkaa.Frame
open Go.RowKit Go.Proofs.YtndmdlnmjamgkaaW.PrintWords Go.Proofs.Ytndmdlnmjamgkaa.PF Go.Proofs.Ytndmdlnmjamgkaa.Opn

theorem fAt_of_fEn {L : Int} (p : Int) (ws : List S46) : ∀ e, ok L e ws = true → (fEn p ws).2 = true → (fAt p ws).2 = true ∧ (fAt p ws).1 = (fEn p ws).1 := by
  induction ws with
  | nil => intro e _ h; cases h
  | cons w r ih =>
    intro e h hn
    obtain ⟨h1, h2, h3, h4⟩ := ok_cons h
    unfold fAt fEn
    unfold fEn at hn
    by_cases c : p = w.f1
    · rw [if_pos (by omega), if_pos (by omega), if_pos c]; exact ⟨rfl, rfl⟩
    · rw [if_neg c] at hn ⊢
      by_cases c1 : w.f1 ≤ p
      · rw [if_pos c1]
        by_cases c2 : p < w.f1 + w.f2
        · rw [fEn_ahead p r _ c2 h4] at hn; cases hn
        · rw [if_neg c2]; exact ih _ h4 hn
      · rw [if_neg c1]; exact ih _ h4 hn
theorem At_turn {L : Int} {ws : List S46} {t : Int} (hr : right L ws = true) (h0 : 0 ≤ t) (h1 : t ≤ 549755813888) : At L ws (t + L) = At L ws t ∧ En L ws (t + L) = En L ws t := by
  obtain ⟨g1, g2, _, _⟩ := right_true hr
  unfold At En
  rw [may_of (by omega) (by omega) hr, may_of (by omega) (by omega) hr, Int.add_emod_right]
  exact ⟨rfl, rfl⟩
theorem FrameTurns_true (L : Int) (ws : List S46) (t : Int) : portholelaw09_FrameTurns.f 51 L ws t = some true := by
  unfold portholelaw09_FrameTurns.f
  rw [wakes_eq 51 (by omega), RefRight_eq 51 (by omega)]
  simp only [Option.bind_some, if_true]
  have ht : portholelaw09_FrameTurns.j0 51 t true L ws = some true := rfl
  rw [ht]
  by_cases c1 : (ws.length : Int) > 100
  · rw [if_pos c1]
  rw [if_neg c1]
  by_cases hr : right L ws = true
  · rw [if_pos hr]
    by_cases c2 : t < 0
    · rw [if_pos c2]
    rw [if_neg c2]
    by_cases c3 : t > 549755813888
    · rw [decide_eq_true c3]; exact ht
    · rw [decide_eq_false c3]
      obtain ⟨g1, g2, _, g4⟩ := right_true hr
      simp only [portholelaw09_FrameTurns.j0]
      rw [show wrap64 (t + L) = t + L from by unfold wrap64; omega]
      rw [At_eq 50 (by omega), At_eq 50 (by omega), En_eq 50 (by omega), En_eq 50 (by omega)]
      simp only [Option.bind_some, Bool.false_eq_true, if_false]
      obtain ⟨e1, e2⟩ := At_turn hr (by omega : 0 ≤ t) (by omega)
      rw [e1, e2]
      simp only [if_true, beq_self_eq_true]
      by_cases c4 : (En L ws t).2 = true
      · rw [if_pos c4]
        have hm := may_of (ws := ws) (by omega : 0 ≤ t) (by omega) hr
        unfold En at c4
        rw [hm, if_pos rfl] at c4
        unfold At
        rw [hm, if_pos rfl, (fAt_of_fEn (t % L) ws 0 g4 c4).1]
      · rw [if_neg c4]
  · rw [if_neg hr]
theorem FrameTurns_walk (W : World) (cs : Array Value) (x : Int × List S46) (hK : kFrame.K W x (Value.agg cs).cells.toList) (_hV : VI x.1 ∧ (x.2.length ≤ maxLen ∧ ∀ w ∈ x.2, VW w)) (a : Int) (_ha : (Lit.int .i64 a).wf = true) :
    Calls Try.prog 7 #[.agg cs, .int .i64 a] W fun e w' => e = .returned (.bool true) ∧ Below W.heap.size W w' := by
  obtain ⟨A, c, rfl, hl, hr⟩ := kFrame_open hK
  exact portholelaw09_FrameTurns.calls 51 x.1 A c x.2 a true W hr hl (FrameTurns_true _ _ _)
end Go.Proofs.Ytndmdlnmjamgkaa.Frame
