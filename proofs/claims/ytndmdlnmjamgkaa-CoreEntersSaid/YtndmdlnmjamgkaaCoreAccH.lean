import Derived.Test.YtndmdlnmjamgkaaCoreAccC
import Derived.Test.YtndmdlnmjamgkaaCoreAccV
import Derived.Test.YtndmdlnmjamgkaaCoreAccW
import Derived.Test.YtndmdlnmjamgkaaCoreAccX
import Derived.Test.YtndmdlnmjamgkaaCoreAccY
/- Package portholeref07 (seat of core): window, windows, chans, Holds, All, Accepts; what they tell, in plain words. Written by wip/coreacc.py. -/
namespace Go.Proofs.Ytndmdlnmjamgkaa.Core
open Go.RowKit Go.Proofs.YtndmdlnmjamgkaaW.PrintWords Go.Proofs.YtndmdlnmjamgkaaW.PrintLast Go.Proofs.YtndmdlnmjamgkaaW.PrintMore Go.Proofs.Ytndmdlnmjamgkaa.PF Go.Proofs.Ytndmdlnmjamgkaa.Frame Go.Proofs.Ytndmdlnmjamgkaa.Box Go.Proofs.Ytndmdlnmjamgkaa.Lin
set_option linter.unusedSimpArgs false
set_option linter.unusedVariables false
/-- What a configuration's slices hold, and how long they are at most. -/
structure CF (w : World) (Ap : Option Addr) (np cp : Nat) (Ax : Option Addr) (nx cx : Nat) (l0 : Int) (A2 : Option Addr) (n2 c2 : Nat) (l1 : Int) (A3 : Option Addr) (n3 c3 : Nat) (ps : List S69) (xs : List S87) (ws0 ws1 : List S46) : Prop where
  p : Kd.C k69 w Ap np ps
  x : Kd.C k87 w Ax nx xs
  a : Kd.C k46 w A2 n2 ws0
  b : Kd.C k46 w A3 n3 ws1
  mp : np ≤ 1000000
  mx : nx ≤ 1000000
  ma : n2 ≤ 1000000
  mb : n3 ≤ 1000000
theorem CF.to {w w' : World} {Ap : Option Addr} {np cp : Nat} {Ax : Option Addr} {nx cx : Nat} {l0 : Int} {A2 : Option Addr} {n2 c2 : Nat} {l1 : Int} {A3 : Option Addr} {n3 c3 : Nat} {ps : List S69} {xs : List S87} {ws0 ws1 : List S46} (h : CF w Ap np cp Ax nx cx l0 A2 n2 c2 l1 A3 n3 c3 ps xs ws0 ws1) (hb : Below w.heap.size w w') : CF w' Ap np cp Ax nx cx l0 A2 n2 c2 l1 A3 n3 c3 ps xs ws0 ws1 := ⟨Kd.C_below h.p hb, Kd.C_below h.x hb, Kd.C_below h.a hb, Kd.C_below h.b hb, h.mp, h.mx, h.ma, h.mb⟩
def coreOk (ps : List S69) (i : Int) : Prop := (rd_T69 ps i).f0 = 0 ∨ (rd_T69 ps i).f0 = 1
def winOk (ps : List S69) (n2 n3 : Nat) (ws0 ws1 : List S46) (i : Int) : Prop := ((rd_T69 ps i).f0 = 0 ∧ inW ws0 n2 i) ∨ ((rd_T69 ps i).f0 = 1 ∧ inW ws1 n3 i)
/-- What the absence of the defects tells that a proof may need. -/
structure HP (np n2 n3 : Nat) (l0 l1 : Int) (ps : List S69) (ws0 ws1 : List S46) (k : Int) : Prop where
  c1 : k = 1 → 1 ≤ np ∧ np ≤ 6
  c2 : k = 2 → allTo (coreOk ps) np
  c12 : k = 12 → (1 ≤ l0 ∧ l0 ≤ 64) ∧ (1 ≤ l1 ∧ l1 ≤ 64)
  c13 : k = 13 → (n2 : Int) ≤ 16 ∧ (n3 : Int) ≤ 16
  c14 : k = 14 → allTo (W14 ps np ws0 0) n2 ∧ allTo (W14 ps np ws1 1) n3
  c15 : k = 15 → allTo (W15 l0 ws0) n2 ∧ allTo (W15 l1 ws1) n3
  c16 : k = 16 → allTo (W16 ws0) n2 ∧ allTo (W16 ws1) n3
  c17 : k = 17 → allTo (winOk ps n2 n3 ws0 ws1) np
set_option maxRecDepth 20000 in
set_option maxHeartbeats 8000000 in
theorem holds1_calls (W : World) (Ap : Option Addr) (np cp : Nat) (Ax : Option Addr) (nx cx : Nat) (l0 : Int) (A2 : Option Addr) (n2 c2 : Nat) (l1 : Int) (A3 : Option Addr) (n3 c3 : Nat) (ps : List S69) (xs : List S87) (ws0 ws1 : List S46) (H : CF W Ap np cp Ax nx cx l0 A2 n2 c2 l1 A3 n3 c3 ps xs ws0 ws1) :
    Calls Try.prog 58 #[.agg #[.slice Ap np cp, .slice Ax nx cx, .int .i64 l0, .slice A2 n2 c2, .int .i64 l1, .slice A3 n3 c3], .int .i64 1] W fun e w' => Tells (fun b => b = false → HP np n2 n3 l0 l1 ps ws0 ws1 1) W e w' := by
  have HB := Aside0.mk (below_alloc (Below.refl _ W) (.cells #[.slice Ap np cp, .slice Ax nx cx, .int .i64 l0, .slice A2 n2 c2, .int .i64 l1, .slice A3 n3 c3] 61))
  have HG : Aside0 ((W.alloc (.cells #[.slice Ap np cp, .slice Ax nx cx, .int .i64 l0, .slice A2 n2 c2, .int .i64 l1, .slice A3 n3 c3] 61)).heap[W.heap.size]? = some (.cells #[.slice Ap np cp, .slice Ax nx cx, .int .i64 l0, .slice A2 n2 c2, .int .i64 l1, .slice A3 n3 c3] 61 (0, 0))) := ⟨blk_new W _⟩
  have HH := Aside0.mk H
  clear H
  by_cases h : (np : Int) < 1
  · have e0 : decide ((np : Int) < 1) = true := decide_eq_true h
    clear h
    have hg0 : (W.alloc (.cells #[.slice Ap np cp, .slice Ax nx cx, .int .i64 l0, .slice A2 n2 c2, .int .i64 l1, .slice A3 n3 c3] 61)).cell? ⟨W.heap.size, 0, none⟩ = some (.slice Ap np cp) := (blk_cell HG.out 0).trans rfl
    have hg1 : (W.alloc (.cells #[.slice Ap np cp, .slice Ax nx cx, .int .i64 l0, .slice A2 n2 c2, .int .i64 l1, .slice A3 n3 c3] 61)).cell? ⟨W.heap.size, 1, none⟩ = some (.slice Ax nx cx) := (blk_cell HG.out 1).trans rfl
    have hg2 : (W.alloc (.cells #[.slice Ap np cp, .slice Ax nx cx, .int .i64 l0, .slice A2 n2 c2, .int .i64 l1, .slice A3 n3 c3] 61)).cell? ⟨W.heap.size, 2, none⟩ = some (.int .i64 l0) := (blk_cell HG.out 2).trans rfl
    have hg3 : (W.alloc (.cells #[.slice Ap np cp, .slice Ax nx cx, .int .i64 l0, .slice A2 n2 c2, .int .i64 l1, .slice A3 n3 c3] 61)).cell? ⟨W.heap.size, 3, none⟩ = some (.slice A2 n2 c2) := (blk_cell HG.out 3).trans rfl
    have hg4 : (W.alloc (.cells #[.slice Ap np cp, .slice Ax nx cx, .int .i64 l0, .slice A2 n2 c2, .int .i64 l1, .slice A3 n3 c3] 61)).cell? ⟨W.heap.size, 4, none⟩ = some (.int .i64 l1) := (blk_cell HG.out 4).trans rfl
    have hg5 : (W.alloc (.cells #[.slice Ap np cp, .slice Ax nx cx, .int .i64 l0, .slice A2 n2 c2, .int .i64 l1, .slice A3 n3 c3] 61)).cell? ⟨W.heap.size, 5, none⟩ = some (.slice A3 n3 c3) := (blk_cell HG.out 5).trans rfl
    go_enter Try.func58, Try.ntmps58
    go_wp2
    go_ret
    exact ⟨⟨true, rfl, fun h => by cases h⟩, HB.out⟩
  · have e0 : decide ((np : Int) < 1) = false := decide_eq_false h
    by_cases h1 : (6 : Int) < (np : Int)
    · have e1 : decide ((6 : Int) < (np : Int)) = true := decide_eq_true h1
      clear h h1
      have hg0 : (W.alloc (.cells #[.slice Ap np cp, .slice Ax nx cx, .int .i64 l0, .slice A2 n2 c2, .int .i64 l1, .slice A3 n3 c3] 61)).cell? ⟨W.heap.size, 0, none⟩ = some (.slice Ap np cp) := (blk_cell HG.out 0).trans rfl
      have hg1 : (W.alloc (.cells #[.slice Ap np cp, .slice Ax nx cx, .int .i64 l0, .slice A2 n2 c2, .int .i64 l1, .slice A3 n3 c3] 61)).cell? ⟨W.heap.size, 1, none⟩ = some (.slice Ax nx cx) := (blk_cell HG.out 1).trans rfl
      have hg2 : (W.alloc (.cells #[.slice Ap np cp, .slice Ax nx cx, .int .i64 l0, .slice A2 n2 c2, .int .i64 l1, .slice A3 n3 c3] 61)).cell? ⟨W.heap.size, 2, none⟩ = some (.int .i64 l0) := (blk_cell HG.out 2).trans rfl
      have hg3 : (W.alloc (.cells #[.slice Ap np cp, .slice Ax nx cx, .int .i64 l0, .slice A2 n2 c2, .int .i64 l1, .slice A3 n3 c3] 61)).cell? ⟨W.heap.size, 3, none⟩ = some (.slice A2 n2 c2) := (blk_cell HG.out 3).trans rfl
      have hg4 : (W.alloc (.cells #[.slice Ap np cp, .slice Ax nx cx, .int .i64 l0, .slice A2 n2 c2, .int .i64 l1, .slice A3 n3 c3] 61)).cell? ⟨W.heap.size, 4, none⟩ = some (.int .i64 l1) := (blk_cell HG.out 4).trans rfl
      have hg5 : (W.alloc (.cells #[.slice Ap np cp, .slice Ax nx cx, .int .i64 l0, .slice A2 n2 c2, .int .i64 l1, .slice A3 n3 c3] 61)).cell? ⟨W.heap.size, 5, none⟩ = some (.slice A3 n3 c3) := (blk_cell HG.out 5).trans rfl
      go_enter Try.func58, Try.ntmps58
      go_wp2
      go_ret
      exact ⟨⟨true, rfl, fun h => by cases h⟩, HB.out⟩
    · have e1 : decide ((6 : Int) < (np : Int)) = false := decide_eq_false h1
      have HQ : Aside0 (1 ≤ np ∧ np ≤ 6) := ⟨by omega⟩
      clear h h1
      have hg0 : (W.alloc (.cells #[.slice Ap np cp, .slice Ax nx cx, .int .i64 l0, .slice A2 n2 c2, .int .i64 l1, .slice A3 n3 c3] 61)).cell? ⟨W.heap.size, 0, none⟩ = some (.slice Ap np cp) := (blk_cell HG.out 0).trans rfl
      have hg1 : (W.alloc (.cells #[.slice Ap np cp, .slice Ax nx cx, .int .i64 l0, .slice A2 n2 c2, .int .i64 l1, .slice A3 n3 c3] 61)).cell? ⟨W.heap.size, 1, none⟩ = some (.slice Ax nx cx) := (blk_cell HG.out 1).trans rfl
      have hg2 : (W.alloc (.cells #[.slice Ap np cp, .slice Ax nx cx, .int .i64 l0, .slice A2 n2 c2, .int .i64 l1, .slice A3 n3 c3] 61)).cell? ⟨W.heap.size, 2, none⟩ = some (.int .i64 l0) := (blk_cell HG.out 2).trans rfl
      have hg3 : (W.alloc (.cells #[.slice Ap np cp, .slice Ax nx cx, .int .i64 l0, .slice A2 n2 c2, .int .i64 l1, .slice A3 n3 c3] 61)).cell? ⟨W.heap.size, 3, none⟩ = some (.slice A2 n2 c2) := (blk_cell HG.out 3).trans rfl
      have hg4 : (W.alloc (.cells #[.slice Ap np cp, .slice Ax nx cx, .int .i64 l0, .slice A2 n2 c2, .int .i64 l1, .slice A3 n3 c3] 61)).cell? ⟨W.heap.size, 4, none⟩ = some (.int .i64 l1) := (blk_cell HG.out 4).trans rfl
      have hg5 : (W.alloc (.cells #[.slice Ap np cp, .slice Ax nx cx, .int .i64 l0, .slice A2 n2 c2, .int .i64 l1, .slice A3 n3 c3] 61)).cell? ⟨W.heap.size, 5, none⟩ = some (.slice A3 n3 c3) := (blk_cell HG.out 5).trans rfl
      go_enter Try.func58, Try.ntmps58
      go_wp2
      go_ret
      exact ⟨⟨false, rfl, fun _ => ⟨fun _ => HQ.out, fun h => absurd h (by decide), fun h => absurd h (by decide), fun h => absurd h (by decide), fun h => absurd h (by decide), fun h => absurd h (by decide), fun h => absurd h (by decide), fun h => absurd h (by decide)⟩⟩, HB.out⟩
set_option maxRecDepth 20000 in
set_option maxHeartbeats 8000000 in
theorem holds2_calls (W : World) (Ap : Option Addr) (np cp : Nat) (Ax : Option Addr) (nx cx : Nat) (l0 : Int) (A2 : Option Addr) (n2 c2 : Nat) (l1 : Int) (A3 : Option Addr) (n3 c3 : Nat) (ps : List S69) (xs : List S87) (ws0 ws1 : List S46) (H : CF W Ap np cp Ax nx cx l0 A2 n2 c2 l1 A3 n3 c3 ps xs ws0 ws1) :
    Calls Try.prog 58 #[.agg #[.slice Ap np cp, .slice Ax nx cx, .int .i64 l0, .slice A2 n2 c2, .int .i64 l1, .slice A3 n3 c3], .int .i64 2] W fun e w' => Tells (fun b => b = false → HP np n2 n3 l0 l1 ps ws0 ws1 2) W e w' := by
  have HB := Aside0.mk (below_alloc (Below.refl _ W) (.cells #[.slice Ap np cp, .slice Ax nx cx, .int .i64 l0, .slice A2 n2 c2, .int .i64 l1, .slice A3 n3 c3] 61))
  have HG : Aside0 ((W.alloc (.cells #[.slice Ap np cp, .slice Ax nx cx, .int .i64 l0, .slice A2 n2 c2, .int .i64 l1, .slice A3 n3 c3] 61)).heap[W.heap.size]? = some (.cells #[.slice Ap np cp, .slice Ax nx cx, .int .i64 l0, .slice A2 n2 c2, .int .i64 l1, .slice A3 n3 c3] 61 (0, 0))) := ⟨blk_new W _⟩
  have HH := Aside0.mk H
  clear H
  go_enter Try.func58, Try.ntmps58
  go_wp2_with fail
  go_loopw [5] (fun v wr => ∃ x : Int, 0 ≤ x ∧ x ≤ np ∧ v = .int .i64 x ∧ Aside0 (wr.heap[W.heap.size]? = some (.cells #[.slice Ap np cp, .slice Ax nx cx, .int .i64 l0, .slice A2 n2 c2, .int .i64 l1, .slice A3 n3 c3] 61 (0, 0))) ∧ Aside0 (Below W.heap.size W wr) ∧ Aside0 (allTo (coreOk ps) x)) (fun v _ => (np - (intOf v)).toNat)
  case atStart => exact ⟨0, by omega, by omega, rfl, HG, HB, ⟨allTo_zero _⟩⟩
  case round =>
    clear HB HG
    obtain ⟨x, hx0, hx1, rfl, HG, HB, HA⟩ := hrel
    have hmp := HH.out.mp
    have hg0 : wr.cell? ⟨W.heap.size, 0, none⟩ = some (.slice Ap np cp) := (blk_cell HG.out 0).trans rfl
    have hg1 : wr.cell? ⟨W.heap.size, 1, none⟩ = some (.slice Ax nx cx) := (blk_cell HG.out 1).trans rfl
    have hg2 : wr.cell? ⟨W.heap.size, 2, none⟩ = some (.int .i64 l0) := (blk_cell HG.out 2).trans rfl
    have hg3 : wr.cell? ⟨W.heap.size, 3, none⟩ = some (.slice A2 n2 c2) := (blk_cell HG.out 3).trans rfl
    have hg4 : wr.cell? ⟨W.heap.size, 4, none⟩ = some (.int .i64 l1) := (blk_cell HG.out 4).trans rfl
    have hg5 : wr.cell? ⟨W.heap.size, 5, none⟩ = some (.slice A3 n3 c3) := (blk_cell HG.out 5).trans rfl
    by_cases hlt : x < (np : Int)
    · have hd : decide (x < (np : Int)) = true := decide_eq_true hlt
      have hw1 : wrap64 (x + 1) = x + 1 := by unfold wrap64; omega
      clear hmp
      obtain ⟨ax, rfl, d0, d1⟩ := at_T69 (HH.out.to HB.out).p x hx0 hlt
      obtain ⟨a0, ha0⟩ : ∃ a, (rd_T69 ps x).f0 = a := ⟨_, rfl⟩
      obtain ⟨a1, ha1⟩ : ∃ a, (rd_T69 ps x).f1 = a := ⟨_, rfl⟩
      rw [ha0] at d0
      rw [ha1] at d1
      have HE := Aside0.mk ha0
      clear ha0 ha1
      have hbk := below_alloc (Below.refl _ wr) (.cells #[.int .i64 a0, .int .i64 a1] 69)
      have HB1 := Aside0.mk (HB.out.trans (hbk.mono HB.out.size))
      have HG1 := Aside0.mk (blk_below HG.out hbk)
      have HK1 : Aside0 ((wr.alloc (.cells #[.int .i64 a0, .int .i64 a1] 69)).heap[wr.heap.size]? = some (.cells #[.int .i64 a0, .int .i64 a1] 69 (0, 0))) := ⟨blk_new wr _⟩
      clear hbk HB HG
      have hj0 : (wr.alloc (.cells #[.int .i64 a0, .int .i64 a1] 69)).cell? ⟨W.heap.size, 0, none⟩ = some (.slice (some ax) np cp) := (blk_cell HG1.out 0).trans rfl
      have hj1 : (wr.alloc (.cells #[.int .i64 a0, .int .i64 a1] 69)).cell? ⟨W.heap.size, 1, none⟩ = some (.slice Ax nx cx) := (blk_cell HG1.out 1).trans rfl
      have hj2 : (wr.alloc (.cells #[.int .i64 a0, .int .i64 a1] 69)).cell? ⟨W.heap.size, 2, none⟩ = some (.int .i64 l0) := (blk_cell HG1.out 2).trans rfl
      have hj3 : (wr.alloc (.cells #[.int .i64 a0, .int .i64 a1] 69)).cell? ⟨W.heap.size, 3, none⟩ = some (.slice A2 n2 c2) := (blk_cell HG1.out 3).trans rfl
      have hj4 : (wr.alloc (.cells #[.int .i64 a0, .int .i64 a1] 69)).cell? ⟨W.heap.size, 4, none⟩ = some (.int .i64 l1) := (blk_cell HG1.out 4).trans rfl
      have hj5 : (wr.alloc (.cells #[.int .i64 a0, .int .i64 a1] 69)).cell? ⟨W.heap.size, 5, none⟩ = some (.slice A3 n3 c3) := (blk_cell HG1.out 5).trans rfl
      have hk0 : (wr.alloc (.cells #[.int .i64 a0, .int .i64 a1] 69)).cell? ⟨wr.heap.size, 0, none⟩ = some (.int .i64 a0) := (blk_cell HK1.out 0).trans rfl
      have hk1 : (wr.alloc (.cells #[.int .i64 a0, .int .i64 a1] 69)).cell? ⟨wr.heap.size, 1, none⟩ = some (.int .i64 a1) := (blk_cell HK1.out 1).trans rfl
      by_cases g0 : a0 = 0
      · have e0 : (a0 != 0) = false := by simp [g0]
        have HA2 := Aside0.mk (allTo_succ HA.out (show coreOk ps x from Or.inl (HE.out.trans g0)))
        clear g0 HE HA
        go_wp2
        go_roundw
        case rel => exact ⟨x + 1, by omega, by omega, by go_num, HG1, HB1, HA2⟩
        case measure => simp [intOf]; omega
      · have e0 : (a0 != 0) = true := by simp [g0]
        by_cases g1 : a0 = 1
        · have e1 : (a0 != 1) = false := by simp [g1]
          have HA2 := Aside0.mk (allTo_succ HA.out (show coreOk ps x from Or.inr (HE.out.trans g1)))
          clear g0 g1 HE HA
          go_wp2
          go_roundw
          case rel => exact ⟨x + 1, by omega, by omega, by go_num, HG1, HB1, HA2⟩
          case measure => simp [intOf]; omega
        · have e1 : (a0 != 1) = true := by simp [g1]
          clear g0 g1 HE HA
          go_wp2
          go_ret
          exact ⟨⟨true, rfl, fun h => by cases h⟩, HB1.out⟩
    · have hd : decide (x < (np : Int)) = false := decide_eq_false hlt
      obtain rfl : x = np := by omega
      clear hmp
      go_wp2
      go_ret
      exact ⟨⟨false, rfl, fun _ => ⟨fun h => absurd h (by decide), fun _ => HA.out, fun h => absurd h (by decide), fun h => absurd h (by decide), fun h => absurd h (by decide), fun h => absurd h (by decide), fun h => absurd h (by decide), fun h => absurd h (by decide)⟩⟩, HB.out⟩
set_option maxRecDepth 20000 in
set_option maxHeartbeats 8000000 in
theorem holds3_calls (W : World) (Ap : Option Addr) (np cp : Nat) (Ax : Option Addr) (nx cx : Nat) (l0 : Int) (A2 : Option Addr) (n2 c2 : Nat) (l1 : Int) (A3 : Option Addr) (n3 c3 : Nat) (ps : List S69) (xs : List S87) (ws0 ws1 : List S46) (H : CF W Ap np cp Ax nx cx l0 A2 n2 c2 l1 A3 n3 c3 ps xs ws0 ws1) :
    Calls Try.prog 58 #[.agg #[.slice Ap np cp, .slice Ax nx cx, .int .i64 l0, .slice A2 n2 c2, .int .i64 l1, .slice A3 n3 c3], .int .i64 3] W fun e w' => Tells (fun b => b = false → HP np n2 n3 l0 l1 ps ws0 ws1 3) W e w' := by
  have HB := Aside0.mk (below_alloc (Below.refl _ W) (.cells #[.slice Ap np cp, .slice Ax nx cx, .int .i64 l0, .slice A2 n2 c2, .int .i64 l1, .slice A3 n3 c3] 61))
  have HG : Aside0 ((W.alloc (.cells #[.slice Ap np cp, .slice Ax nx cx, .int .i64 l0, .slice A2 n2 c2, .int .i64 l1, .slice A3 n3 c3] 61)).heap[W.heap.size]? = some (.cells #[.slice Ap np cp, .slice Ax nx cx, .int .i64 l0, .slice A2 n2 c2, .int .i64 l1, .slice A3 n3 c3] 61 (0, 0))) := ⟨blk_new W _⟩
  have HH := Aside0.mk H
  clear H
  go_enter Try.func58, Try.ntmps58
  go_wp2_with fail
  go_loopw [5] (fun v wr => ∃ x : Int, 0 ≤ x ∧ x ≤ np ∧ v = .int .i64 x ∧ Aside0 (wr.heap[W.heap.size]? = some (.cells #[.slice Ap np cp, .slice Ax nx cx, .int .i64 l0, .slice A2 n2 c2, .int .i64 l1, .slice A3 n3 c3] 61 (0, 0))) ∧ Aside0 (Below W.heap.size W wr) ∧ Aside0 (allTo (fun _ => True) x)) (fun v _ => (np - (intOf v)).toNat)
  case atStart => exact ⟨0, by omega, by omega, rfl, HG, HB, ⟨allTo_zero _⟩⟩
  case round =>
    clear HB HG
    obtain ⟨x, hx0, hx1, rfl, HG, HB, HA⟩ := hrel
    have hmp := HH.out.mp
    have hg0 : wr.cell? ⟨W.heap.size, 0, none⟩ = some (.slice Ap np cp) := (blk_cell HG.out 0).trans rfl
    have hg1 : wr.cell? ⟨W.heap.size, 1, none⟩ = some (.slice Ax nx cx) := (blk_cell HG.out 1).trans rfl
    have hg2 : wr.cell? ⟨W.heap.size, 2, none⟩ = some (.int .i64 l0) := (blk_cell HG.out 2).trans rfl
    have hg3 : wr.cell? ⟨W.heap.size, 3, none⟩ = some (.slice A2 n2 c2) := (blk_cell HG.out 3).trans rfl
    have hg4 : wr.cell? ⟨W.heap.size, 4, none⟩ = some (.int .i64 l1) := (blk_cell HG.out 4).trans rfl
    have hg5 : wr.cell? ⟨W.heap.size, 5, none⟩ = some (.slice A3 n3 c3) := (blk_cell HG.out 5).trans rfl
    by_cases hlt : x < (np : Int)
    · have hd : decide (x < (np : Int)) = true := decide_eq_true hlt
      have hw1 : wrap64 (x + 1) = x + 1 := by unfold wrap64; omega
      clear hmp
      obtain ⟨ax, rfl, d0, d1⟩ := at_T69 (HH.out.to HB.out).p x hx0 hlt
      obtain ⟨a0, ha0⟩ : ∃ a, (rd_T69 ps x).f0 = a := ⟨_, rfl⟩
      obtain ⟨a1, ha1⟩ : ∃ a, (rd_T69 ps x).f1 = a := ⟨_, rfl⟩
      rw [ha0] at d0
      rw [ha1] at d1
      have HE := Aside0.mk ha0
      clear ha0 ha1
      have hbk := below_alloc (Below.refl _ wr) (.cells #[.int .i64 a0, .int .i64 a1] 69)
      have HB1 := Aside0.mk (HB.out.trans (hbk.mono HB.out.size))
      have HG1 := Aside0.mk (blk_below HG.out hbk)
      have HK1 : Aside0 ((wr.alloc (.cells #[.int .i64 a0, .int .i64 a1] 69)).heap[wr.heap.size]? = some (.cells #[.int .i64 a0, .int .i64 a1] 69 (0, 0))) := ⟨blk_new wr _⟩
      clear hbk HB HG
      have hj0 : (wr.alloc (.cells #[.int .i64 a0, .int .i64 a1] 69)).cell? ⟨W.heap.size, 0, none⟩ = some (.slice (some ax) np cp) := (blk_cell HG1.out 0).trans rfl
      have hj1 : (wr.alloc (.cells #[.int .i64 a0, .int .i64 a1] 69)).cell? ⟨W.heap.size, 1, none⟩ = some (.slice Ax nx cx) := (blk_cell HG1.out 1).trans rfl
      have hj2 : (wr.alloc (.cells #[.int .i64 a0, .int .i64 a1] 69)).cell? ⟨W.heap.size, 2, none⟩ = some (.int .i64 l0) := (blk_cell HG1.out 2).trans rfl
      have hj3 : (wr.alloc (.cells #[.int .i64 a0, .int .i64 a1] 69)).cell? ⟨W.heap.size, 3, none⟩ = some (.slice A2 n2 c2) := (blk_cell HG1.out 3).trans rfl
      have hj4 : (wr.alloc (.cells #[.int .i64 a0, .int .i64 a1] 69)).cell? ⟨W.heap.size, 4, none⟩ = some (.int .i64 l1) := (blk_cell HG1.out 4).trans rfl
      have hj5 : (wr.alloc (.cells #[.int .i64 a0, .int .i64 a1] 69)).cell? ⟨W.heap.size, 5, none⟩ = some (.slice A3 n3 c3) := (blk_cell HG1.out 5).trans rfl
      have hk0 : (wr.alloc (.cells #[.int .i64 a0, .int .i64 a1] 69)).cell? ⟨wr.heap.size, 0, none⟩ = some (.int .i64 a0) := (blk_cell HK1.out 0).trans rfl
      have hk1 : (wr.alloc (.cells #[.int .i64 a0, .int .i64 a1] 69)).cell? ⟨wr.heap.size, 1, none⟩ = some (.int .i64 a1) := (blk_cell HK1.out 1).trans rfl
      have HA2 : Aside0 (allTo (fun _ => True) (x + 1)) := ⟨fun _ _ _ => trivial⟩
      clear HE HA
      cases e0 : decide (a1 < 0) with
      | true =>
        go_wp2
        go_ret
        exact ⟨⟨true, rfl, fun h => by cases h⟩, HB1.out⟩
      | false =>
        cases e1 : decide (64 < a1) with
        | true =>
          go_wp2
          go_ret
          exact ⟨⟨true, rfl, fun h => by cases h⟩, HB1.out⟩
        | false =>
          go_wp2
          go_roundw
          case rel => exact ⟨x + 1, by omega, by omega, by go_num, HG1, HB1, HA2⟩
          case measure => simp [intOf]; omega
    · have hd : decide (x < (np : Int)) = false := decide_eq_false hlt
      obtain rfl : x = np := by omega
      clear hmp
      go_wp2
      go_ret
      exact ⟨⟨false, rfl, fun _ => ⟨fun h => absurd h (by decide), fun h => absurd h (by decide), fun h => absurd h (by decide), fun h => absurd h (by decide), fun h => absurd h (by decide), fun h => absurd h (by decide), fun h => absurd h (by decide), fun h => absurd h (by decide)⟩⟩, HB.out⟩
set_option maxRecDepth 20000 in
set_option maxHeartbeats 8000000 in
theorem holds4_calls (W : World) (Ap : Option Addr) (np cp : Nat) (Ax : Option Addr) (nx cx : Nat) (l0 : Int) (A2 : Option Addr) (n2 c2 : Nat) (l1 : Int) (A3 : Option Addr) (n3 c3 : Nat) (ps : List S69) (xs : List S87) (ws0 ws1 : List S46) (H : CF W Ap np cp Ax nx cx l0 A2 n2 c2 l1 A3 n3 c3 ps xs ws0 ws1) :
    Calls Try.prog 58 #[.agg #[.slice Ap np cp, .slice Ax nx cx, .int .i64 l0, .slice A2 n2 c2, .int .i64 l1, .slice A3 n3 c3], .int .i64 4] W fun e w' => Tells (fun b => b = false → HP np n2 n3 l0 l1 ps ws0 ws1 4) W e w' := by
  have HB := Aside0.mk (below_alloc (Below.refl _ W) (.cells #[.slice Ap np cp, .slice Ax nx cx, .int .i64 l0, .slice A2 n2 c2, .int .i64 l1, .slice A3 n3 c3] 61))
  have HG : Aside0 ((W.alloc (.cells #[.slice Ap np cp, .slice Ax nx cx, .int .i64 l0, .slice A2 n2 c2, .int .i64 l1, .slice A3 n3 c3] 61)).heap[W.heap.size]? = some (.cells #[.slice Ap np cp, .slice Ax nx cx, .int .i64 l0, .slice A2 n2 c2, .int .i64 l1, .slice A3 n3 c3] 61 (0, 0))) := ⟨blk_new W _⟩
  have HH := Aside0.mk H
  clear H
  have hg0 : (W.alloc (.cells #[.slice Ap np cp, .slice Ax nx cx, .int .i64 l0, .slice A2 n2 c2, .int .i64 l1, .slice A3 n3 c3] 61)).cell? ⟨W.heap.size, 0, none⟩ = some (.slice Ap np cp) := (blk_cell HG.out 0).trans rfl
  have hg1 : (W.alloc (.cells #[.slice Ap np cp, .slice Ax nx cx, .int .i64 l0, .slice A2 n2 c2, .int .i64 l1, .slice A3 n3 c3] 61)).cell? ⟨W.heap.size, 1, none⟩ = some (.slice Ax nx cx) := (blk_cell HG.out 1).trans rfl
  have hg2 : (W.alloc (.cells #[.slice Ap np cp, .slice Ax nx cx, .int .i64 l0, .slice A2 n2 c2, .int .i64 l1, .slice A3 n3 c3] 61)).cell? ⟨W.heap.size, 2, none⟩ = some (.int .i64 l0) := (blk_cell HG.out 2).trans rfl
  have hg3 : (W.alloc (.cells #[.slice Ap np cp, .slice Ax nx cx, .int .i64 l0, .slice A2 n2 c2, .int .i64 l1, .slice A3 n3 c3] 61)).cell? ⟨W.heap.size, 3, none⟩ = some (.slice A2 n2 c2) := (blk_cell HG.out 3).trans rfl
  have hg4 : (W.alloc (.cells #[.slice Ap np cp, .slice Ax nx cx, .int .i64 l0, .slice A2 n2 c2, .int .i64 l1, .slice A3 n3 c3] 61)).cell? ⟨W.heap.size, 4, none⟩ = some (.int .i64 l1) := (blk_cell HG.out 4).trans rfl
  have hg5 : (W.alloc (.cells #[.slice Ap np cp, .slice Ax nx cx, .int .i64 l0, .slice A2 n2 c2, .int .i64 l1, .slice A3 n3 c3] 61)).cell? ⟨W.heap.size, 5, none⟩ = some (.slice A3 n3 c3) := (blk_cell HG.out 5).trans rfl
  go_enter Try.func58, Try.ntmps58
  cases e0 : decide ((8 : Int) < (nx : Int)) with
  | true =>
    go_wp2
    go_ret
    exact ⟨⟨true, rfl, fun h => by cases h⟩, HB.out⟩
  | false =>
    go_wp2
    go_ret
    exact ⟨⟨false, rfl, fun _ => ⟨fun h => absurd h (by decide), fun h => absurd h (by decide), fun h => absurd h (by decide), fun h => absurd h (by decide), fun h => absurd h (by decide), fun h => absurd h (by decide), fun h => absurd h (by decide), fun h => absurd h (by decide)⟩⟩, HB.out⟩
set_option maxRecDepth 20000 in
set_option maxHeartbeats 8000000 in
theorem holds5_calls (W : World) (Ap : Option Addr) (np cp : Nat) (Ax : Option Addr) (nx cx : Nat) (l0 : Int) (A2 : Option Addr) (n2 c2 : Nat) (l1 : Int) (A3 : Option Addr) (n3 c3 : Nat) (ps : List S69) (xs : List S87) (ws0 ws1 : List S46) (H : CF W Ap np cp Ax nx cx l0 A2 n2 c2 l1 A3 n3 c3 ps xs ws0 ws1) :
    Calls Try.prog 58 #[.agg #[.slice Ap np cp, .slice Ax nx cx, .int .i64 l0, .slice A2 n2 c2, .int .i64 l1, .slice A3 n3 c3], .int .i64 5] W fun e w' => Tells (fun b => b = false → HP np n2 n3 l0 l1 ps ws0 ws1 5) W e w' := by
  have HB := Aside0.mk (below_alloc (Below.refl _ W) (.cells #[.slice Ap np cp, .slice Ax nx cx, .int .i64 l0, .slice A2 n2 c2, .int .i64 l1, .slice A3 n3 c3] 61))
  have HG : Aside0 ((W.alloc (.cells #[.slice Ap np cp, .slice Ax nx cx, .int .i64 l0, .slice A2 n2 c2, .int .i64 l1, .slice A3 n3 c3] 61)).heap[W.heap.size]? = some (.cells #[.slice Ap np cp, .slice Ax nx cx, .int .i64 l0, .slice A2 n2 c2, .int .i64 l1, .slice A3 n3 c3] 61 (0, 0))) := ⟨blk_new W _⟩
  have HH := Aside0.mk H
  clear H
  have hg0 : (W.alloc (.cells #[.slice Ap np cp, .slice Ax nx cx, .int .i64 l0, .slice A2 n2 c2, .int .i64 l1, .slice A3 n3 c3] 61)).cell? ⟨W.heap.size, 0, none⟩ = some (.slice Ap np cp) := (blk_cell HG.out 0).trans rfl
  have hg1 : (W.alloc (.cells #[.slice Ap np cp, .slice Ax nx cx, .int .i64 l0, .slice A2 n2 c2, .int .i64 l1, .slice A3 n3 c3] 61)).cell? ⟨W.heap.size, 1, none⟩ = some (.slice Ax nx cx) := (blk_cell HG.out 1).trans rfl
  have hg2 : (W.alloc (.cells #[.slice Ap np cp, .slice Ax nx cx, .int .i64 l0, .slice A2 n2 c2, .int .i64 l1, .slice A3 n3 c3] 61)).cell? ⟨W.heap.size, 2, none⟩ = some (.int .i64 l0) := (blk_cell HG.out 2).trans rfl
  have hg3 : (W.alloc (.cells #[.slice Ap np cp, .slice Ax nx cx, .int .i64 l0, .slice A2 n2 c2, .int .i64 l1, .slice A3 n3 c3] 61)).cell? ⟨W.heap.size, 3, none⟩ = some (.slice A2 n2 c2) := (blk_cell HG.out 3).trans rfl
  have hg4 : (W.alloc (.cells #[.slice Ap np cp, .slice Ax nx cx, .int .i64 l0, .slice A2 n2 c2, .int .i64 l1, .slice A3 n3 c3] 61)).cell? ⟨W.heap.size, 4, none⟩ = some (.int .i64 l1) := (blk_cell HG.out 4).trans rfl
  have hg5 : (W.alloc (.cells #[.slice Ap np cp, .slice Ax nx cx, .int .i64 l0, .slice A2 n2 c2, .int .i64 l1, .slice A3 n3 c3] 61)).cell? ⟨W.heap.size, 5, none⟩ = some (.slice A3 n3 c3) := (blk_cell HG.out 5).trans rfl
  go_enter Try.func58, Try.ntmps58
  go_wp2_with fail
  refine (chans5_calls _ _ _ _ _ _ _ _ _ _ _ _ _ _ _ xs (HH.out.to HB.out).x HH.out.mx).mono ?_
  rintro e w3 ⟨⟨b, rfl, hb⟩, hbel⟩
  have HB3 := Aside0.mk (HB.out.trans (hbel.mono HB.out.size))
  clear hb hbel HB HG hg0 hg1 hg2 hg3 hg4 hg5
  go_wp2
  go_ret
  exact ⟨⟨b, rfl, fun _ => ⟨fun h => absurd h (by decide), fun h => absurd h (by decide), fun h => absurd h (by decide), fun h => absurd h (by decide), fun h => absurd h (by decide), fun h => absurd h (by decide), fun h => absurd h (by decide), fun h => absurd h (by decide)⟩⟩, HB3.out⟩
set_option maxRecDepth 20000 in
set_option maxHeartbeats 8000000 in
theorem holds6_calls (W : World) (Ap : Option Addr) (np cp : Nat) (Ax : Option Addr) (nx cx : Nat) (l0 : Int) (A2 : Option Addr) (n2 c2 : Nat) (l1 : Int) (A3 : Option Addr) (n3 c3 : Nat) (ps : List S69) (xs : List S87) (ws0 ws1 : List S46) (H : CF W Ap np cp Ax nx cx l0 A2 n2 c2 l1 A3 n3 c3 ps xs ws0 ws1) :
    Calls Try.prog 58 #[.agg #[.slice Ap np cp, .slice Ax nx cx, .int .i64 l0, .slice A2 n2 c2, .int .i64 l1, .slice A3 n3 c3], .int .i64 6] W fun e w' => Tells (fun b => b = false → HP np n2 n3 l0 l1 ps ws0 ws1 6) W e w' := by
  have HB := Aside0.mk (below_alloc (Below.refl _ W) (.cells #[.slice Ap np cp, .slice Ax nx cx, .int .i64 l0, .slice A2 n2 c2, .int .i64 l1, .slice A3 n3 c3] 61))
  have HG : Aside0 ((W.alloc (.cells #[.slice Ap np cp, .slice Ax nx cx, .int .i64 l0, .slice A2 n2 c2, .int .i64 l1, .slice A3 n3 c3] 61)).heap[W.heap.size]? = some (.cells #[.slice Ap np cp, .slice Ax nx cx, .int .i64 l0, .slice A2 n2 c2, .int .i64 l1, .slice A3 n3 c3] 61 (0, 0))) := ⟨blk_new W _⟩
  have HH := Aside0.mk H
  clear H
  have hg0 : (W.alloc (.cells #[.slice Ap np cp, .slice Ax nx cx, .int .i64 l0, .slice A2 n2 c2, .int .i64 l1, .slice A3 n3 c3] 61)).cell? ⟨W.heap.size, 0, none⟩ = some (.slice Ap np cp) := (blk_cell HG.out 0).trans rfl
  have hg1 : (W.alloc (.cells #[.slice Ap np cp, .slice Ax nx cx, .int .i64 l0, .slice A2 n2 c2, .int .i64 l1, .slice A3 n3 c3] 61)).cell? ⟨W.heap.size, 1, none⟩ = some (.slice Ax nx cx) := (blk_cell HG.out 1).trans rfl
  have hg2 : (W.alloc (.cells #[.slice Ap np cp, .slice Ax nx cx, .int .i64 l0, .slice A2 n2 c2, .int .i64 l1, .slice A3 n3 c3] 61)).cell? ⟨W.heap.size, 2, none⟩ = some (.int .i64 l0) := (blk_cell HG.out 2).trans rfl
  have hg3 : (W.alloc (.cells #[.slice Ap np cp, .slice Ax nx cx, .int .i64 l0, .slice A2 n2 c2, .int .i64 l1, .slice A3 n3 c3] 61)).cell? ⟨W.heap.size, 3, none⟩ = some (.slice A2 n2 c2) := (blk_cell HG.out 3).trans rfl
  have hg4 : (W.alloc (.cells #[.slice Ap np cp, .slice Ax nx cx, .int .i64 l0, .slice A2 n2 c2, .int .i64 l1, .slice A3 n3 c3] 61)).cell? ⟨W.heap.size, 4, none⟩ = some (.int .i64 l1) := (blk_cell HG.out 4).trans rfl
  have hg5 : (W.alloc (.cells #[.slice Ap np cp, .slice Ax nx cx, .int .i64 l0, .slice A2 n2 c2, .int .i64 l1, .slice A3 n3 c3] 61)).cell? ⟨W.heap.size, 5, none⟩ = some (.slice A3 n3 c3) := (blk_cell HG.out 5).trans rfl
  go_enter Try.func58, Try.ntmps58
  go_wp2_with fail
  refine (chans6_calls _ _ _ _ _ _ _ _ _ _ _ _ _ _ _ xs (HH.out.to HB.out).x HH.out.mx).mono ?_
  rintro e w3 ⟨⟨b, rfl, hb⟩, hbel⟩
  have HB3 := Aside0.mk (HB.out.trans (hbel.mono HB.out.size))
  clear hb hbel HB HG hg0 hg1 hg2 hg3 hg4 hg5
  go_wp2
  go_ret
  exact ⟨⟨b, rfl, fun _ => ⟨fun h => absurd h (by decide), fun h => absurd h (by decide), fun h => absurd h (by decide), fun h => absurd h (by decide), fun h => absurd h (by decide), fun h => absurd h (by decide), fun h => absurd h (by decide), fun h => absurd h (by decide)⟩⟩, HB3.out⟩
set_option maxRecDepth 20000 in
set_option maxHeartbeats 8000000 in
theorem holds7_calls (W : World) (Ap : Option Addr) (np cp : Nat) (Ax : Option Addr) (nx cx : Nat) (l0 : Int) (A2 : Option Addr) (n2 c2 : Nat) (l1 : Int) (A3 : Option Addr) (n3 c3 : Nat) (ps : List S69) (xs : List S87) (ws0 ws1 : List S46) (H : CF W Ap np cp Ax nx cx l0 A2 n2 c2 l1 A3 n3 c3 ps xs ws0 ws1) :
    Calls Try.prog 58 #[.agg #[.slice Ap np cp, .slice Ax nx cx, .int .i64 l0, .slice A2 n2 c2, .int .i64 l1, .slice A3 n3 c3], .int .i64 7] W fun e w' => Tells (fun b => b = false → HP np n2 n3 l0 l1 ps ws0 ws1 7) W e w' := by
  have HB := Aside0.mk (below_alloc (Below.refl _ W) (.cells #[.slice Ap np cp, .slice Ax nx cx, .int .i64 l0, .slice A2 n2 c2, .int .i64 l1, .slice A3 n3 c3] 61))
  have HG : Aside0 ((W.alloc (.cells #[.slice Ap np cp, .slice Ax nx cx, .int .i64 l0, .slice A2 n2 c2, .int .i64 l1, .slice A3 n3 c3] 61)).heap[W.heap.size]? = some (.cells #[.slice Ap np cp, .slice Ax nx cx, .int .i64 l0, .slice A2 n2 c2, .int .i64 l1, .slice A3 n3 c3] 61 (0, 0))) := ⟨blk_new W _⟩
  have HH := Aside0.mk H
  clear H
  have hg0 : (W.alloc (.cells #[.slice Ap np cp, .slice Ax nx cx, .int .i64 l0, .slice A2 n2 c2, .int .i64 l1, .slice A3 n3 c3] 61)).cell? ⟨W.heap.size, 0, none⟩ = some (.slice Ap np cp) := (blk_cell HG.out 0).trans rfl
  have hg1 : (W.alloc (.cells #[.slice Ap np cp, .slice Ax nx cx, .int .i64 l0, .slice A2 n2 c2, .int .i64 l1, .slice A3 n3 c3] 61)).cell? ⟨W.heap.size, 1, none⟩ = some (.slice Ax nx cx) := (blk_cell HG.out 1).trans rfl
  have hg2 : (W.alloc (.cells #[.slice Ap np cp, .slice Ax nx cx, .int .i64 l0, .slice A2 n2 c2, .int .i64 l1, .slice A3 n3 c3] 61)).cell? ⟨W.heap.size, 2, none⟩ = some (.int .i64 l0) := (blk_cell HG.out 2).trans rfl
  have hg3 : (W.alloc (.cells #[.slice Ap np cp, .slice Ax nx cx, .int .i64 l0, .slice A2 n2 c2, .int .i64 l1, .slice A3 n3 c3] 61)).cell? ⟨W.heap.size, 3, none⟩ = some (.slice A2 n2 c2) := (blk_cell HG.out 3).trans rfl
  have hg4 : (W.alloc (.cells #[.slice Ap np cp, .slice Ax nx cx, .int .i64 l0, .slice A2 n2 c2, .int .i64 l1, .slice A3 n3 c3] 61)).cell? ⟨W.heap.size, 4, none⟩ = some (.int .i64 l1) := (blk_cell HG.out 4).trans rfl
  have hg5 : (W.alloc (.cells #[.slice Ap np cp, .slice Ax nx cx, .int .i64 l0, .slice A2 n2 c2, .int .i64 l1, .slice A3 n3 c3] 61)).cell? ⟨W.heap.size, 5, none⟩ = some (.slice A3 n3 c3) := (blk_cell HG.out 5).trans rfl
  go_enter Try.func58, Try.ntmps58
  go_wp2_with fail
  refine (chans7_calls _ _ _ _ _ _ _ _ _ _ _ _ _ _ _ xs (HH.out.to HB.out).x HH.out.mx).mono ?_
  rintro e w3 ⟨⟨b, rfl, hb⟩, hbel⟩
  have HB3 := Aside0.mk (HB.out.trans (hbel.mono HB.out.size))
  clear hb hbel HB HG hg0 hg1 hg2 hg3 hg4 hg5
  go_wp2
  go_ret
  exact ⟨⟨b, rfl, fun _ => ⟨fun h => absurd h (by decide), fun h => absurd h (by decide), fun h => absurd h (by decide), fun h => absurd h (by decide), fun h => absurd h (by decide), fun h => absurd h (by decide), fun h => absurd h (by decide), fun h => absurd h (by decide)⟩⟩, HB3.out⟩
set_option maxRecDepth 20000 in
set_option maxHeartbeats 8000000 in
theorem holds8_calls (W : World) (Ap : Option Addr) (np cp : Nat) (Ax : Option Addr) (nx cx : Nat) (l0 : Int) (A2 : Option Addr) (n2 c2 : Nat) (l1 : Int) (A3 : Option Addr) (n3 c3 : Nat) (ps : List S69) (xs : List S87) (ws0 ws1 : List S46) (H : CF W Ap np cp Ax nx cx l0 A2 n2 c2 l1 A3 n3 c3 ps xs ws0 ws1) :
    Calls Try.prog 58 #[.agg #[.slice Ap np cp, .slice Ax nx cx, .int .i64 l0, .slice A2 n2 c2, .int .i64 l1, .slice A3 n3 c3], .int .i64 8] W fun e w' => Tells (fun b => b = false → HP np n2 n3 l0 l1 ps ws0 ws1 8) W e w' := by
  have HB := Aside0.mk (below_alloc (Below.refl _ W) (.cells #[.slice Ap np cp, .slice Ax nx cx, .int .i64 l0, .slice A2 n2 c2, .int .i64 l1, .slice A3 n3 c3] 61))
  have HG : Aside0 ((W.alloc (.cells #[.slice Ap np cp, .slice Ax nx cx, .int .i64 l0, .slice A2 n2 c2, .int .i64 l1, .slice A3 n3 c3] 61)).heap[W.heap.size]? = some (.cells #[.slice Ap np cp, .slice Ax nx cx, .int .i64 l0, .slice A2 n2 c2, .int .i64 l1, .slice A3 n3 c3] 61 (0, 0))) := ⟨blk_new W _⟩
  have HH := Aside0.mk H
  clear H
  have hg0 : (W.alloc (.cells #[.slice Ap np cp, .slice Ax nx cx, .int .i64 l0, .slice A2 n2 c2, .int .i64 l1, .slice A3 n3 c3] 61)).cell? ⟨W.heap.size, 0, none⟩ = some (.slice Ap np cp) := (blk_cell HG.out 0).trans rfl
  have hg1 : (W.alloc (.cells #[.slice Ap np cp, .slice Ax nx cx, .int .i64 l0, .slice A2 n2 c2, .int .i64 l1, .slice A3 n3 c3] 61)).cell? ⟨W.heap.size, 1, none⟩ = some (.slice Ax nx cx) := (blk_cell HG.out 1).trans rfl
  have hg2 : (W.alloc (.cells #[.slice Ap np cp, .slice Ax nx cx, .int .i64 l0, .slice A2 n2 c2, .int .i64 l1, .slice A3 n3 c3] 61)).cell? ⟨W.heap.size, 2, none⟩ = some (.int .i64 l0) := (blk_cell HG.out 2).trans rfl
  have hg3 : (W.alloc (.cells #[.slice Ap np cp, .slice Ax nx cx, .int .i64 l0, .slice A2 n2 c2, .int .i64 l1, .slice A3 n3 c3] 61)).cell? ⟨W.heap.size, 3, none⟩ = some (.slice A2 n2 c2) := (blk_cell HG.out 3).trans rfl
  have hg4 : (W.alloc (.cells #[.slice Ap np cp, .slice Ax nx cx, .int .i64 l0, .slice A2 n2 c2, .int .i64 l1, .slice A3 n3 c3] 61)).cell? ⟨W.heap.size, 4, none⟩ = some (.int .i64 l1) := (blk_cell HG.out 4).trans rfl
  have hg5 : (W.alloc (.cells #[.slice Ap np cp, .slice Ax nx cx, .int .i64 l0, .slice A2 n2 c2, .int .i64 l1, .slice A3 n3 c3] 61)).cell? ⟨W.heap.size, 5, none⟩ = some (.slice A3 n3 c3) := (blk_cell HG.out 5).trans rfl
  go_enter Try.func58, Try.ntmps58
  go_wp2_with fail
  refine (chans8_calls _ _ _ _ _ _ _ _ _ _ _ _ _ _ _ xs (HH.out.to HB.out).x HH.out.mx).mono ?_
  rintro e w3 ⟨⟨b, rfl, hb⟩, hbel⟩
  have HB3 := Aside0.mk (HB.out.trans (hbel.mono HB.out.size))
  clear hb hbel HB HG hg0 hg1 hg2 hg3 hg4 hg5
  go_wp2
  go_ret
  exact ⟨⟨b, rfl, fun _ => ⟨fun h => absurd h (by decide), fun h => absurd h (by decide), fun h => absurd h (by decide), fun h => absurd h (by decide), fun h => absurd h (by decide), fun h => absurd h (by decide), fun h => absurd h (by decide), fun h => absurd h (by decide)⟩⟩, HB3.out⟩
set_option maxRecDepth 20000 in
set_option maxHeartbeats 8000000 in
theorem holds9_calls (W : World) (Ap : Option Addr) (np cp : Nat) (Ax : Option Addr) (nx cx : Nat) (l0 : Int) (A2 : Option Addr) (n2 c2 : Nat) (l1 : Int) (A3 : Option Addr) (n3 c3 : Nat) (ps : List S69) (xs : List S87) (ws0 ws1 : List S46) (H : CF W Ap np cp Ax nx cx l0 A2 n2 c2 l1 A3 n3 c3 ps xs ws0 ws1) :
    Calls Try.prog 58 #[.agg #[.slice Ap np cp, .slice Ax nx cx, .int .i64 l0, .slice A2 n2 c2, .int .i64 l1, .slice A3 n3 c3], .int .i64 9] W fun e w' => Tells (fun b => b = false → HP np n2 n3 l0 l1 ps ws0 ws1 9) W e w' := by
  have HB := Aside0.mk (below_alloc (Below.refl _ W) (.cells #[.slice Ap np cp, .slice Ax nx cx, .int .i64 l0, .slice A2 n2 c2, .int .i64 l1, .slice A3 n3 c3] 61))
  have HG : Aside0 ((W.alloc (.cells #[.slice Ap np cp, .slice Ax nx cx, .int .i64 l0, .slice A2 n2 c2, .int .i64 l1, .slice A3 n3 c3] 61)).heap[W.heap.size]? = some (.cells #[.slice Ap np cp, .slice Ax nx cx, .int .i64 l0, .slice A2 n2 c2, .int .i64 l1, .slice A3 n3 c3] 61 (0, 0))) := ⟨blk_new W _⟩
  have HH := Aside0.mk H
  clear H
  have hg0 : (W.alloc (.cells #[.slice Ap np cp, .slice Ax nx cx, .int .i64 l0, .slice A2 n2 c2, .int .i64 l1, .slice A3 n3 c3] 61)).cell? ⟨W.heap.size, 0, none⟩ = some (.slice Ap np cp) := (blk_cell HG.out 0).trans rfl
  have hg1 : (W.alloc (.cells #[.slice Ap np cp, .slice Ax nx cx, .int .i64 l0, .slice A2 n2 c2, .int .i64 l1, .slice A3 n3 c3] 61)).cell? ⟨W.heap.size, 1, none⟩ = some (.slice Ax nx cx) := (blk_cell HG.out 1).trans rfl
  have hg2 : (W.alloc (.cells #[.slice Ap np cp, .slice Ax nx cx, .int .i64 l0, .slice A2 n2 c2, .int .i64 l1, .slice A3 n3 c3] 61)).cell? ⟨W.heap.size, 2, none⟩ = some (.int .i64 l0) := (blk_cell HG.out 2).trans rfl
  have hg3 : (W.alloc (.cells #[.slice Ap np cp, .slice Ax nx cx, .int .i64 l0, .slice A2 n2 c2, .int .i64 l1, .slice A3 n3 c3] 61)).cell? ⟨W.heap.size, 3, none⟩ = some (.slice A2 n2 c2) := (blk_cell HG.out 3).trans rfl
  have hg4 : (W.alloc (.cells #[.slice Ap np cp, .slice Ax nx cx, .int .i64 l0, .slice A2 n2 c2, .int .i64 l1, .slice A3 n3 c3] 61)).cell? ⟨W.heap.size, 4, none⟩ = some (.int .i64 l1) := (blk_cell HG.out 4).trans rfl
  have hg5 : (W.alloc (.cells #[.slice Ap np cp, .slice Ax nx cx, .int .i64 l0, .slice A2 n2 c2, .int .i64 l1, .slice A3 n3 c3] 61)).cell? ⟨W.heap.size, 5, none⟩ = some (.slice A3 n3 c3) := (blk_cell HG.out 5).trans rfl
  go_enter Try.func58, Try.ntmps58
  go_wp2_with fail
  refine (chans9_calls _ _ _ _ _ _ _ _ _ _ _ _ _ _ _ xs (HH.out.to HB.out).x HH.out.mx).mono ?_
  rintro e w3 ⟨⟨b, rfl, hb⟩, hbel⟩
  have HB3 := Aside0.mk (HB.out.trans (hbel.mono HB.out.size))
  clear hb hbel HB HG hg0 hg1 hg2 hg3 hg4 hg5
  go_wp2
  go_ret
  exact ⟨⟨b, rfl, fun _ => ⟨fun h => absurd h (by decide), fun h => absurd h (by decide), fun h => absurd h (by decide), fun h => absurd h (by decide), fun h => absurd h (by decide), fun h => absurd h (by decide), fun h => absurd h (by decide), fun h => absurd h (by decide)⟩⟩, HB3.out⟩
set_option maxRecDepth 20000 in
set_option maxHeartbeats 8000000 in
theorem holds10_calls (W : World) (Ap : Option Addr) (np cp : Nat) (Ax : Option Addr) (nx cx : Nat) (l0 : Int) (A2 : Option Addr) (n2 c2 : Nat) (l1 : Int) (A3 : Option Addr) (n3 c3 : Nat) (ps : List S69) (xs : List S87) (ws0 ws1 : List S46) (H : CF W Ap np cp Ax nx cx l0 A2 n2 c2 l1 A3 n3 c3 ps xs ws0 ws1) :
    Calls Try.prog 58 #[.agg #[.slice Ap np cp, .slice Ax nx cx, .int .i64 l0, .slice A2 n2 c2, .int .i64 l1, .slice A3 n3 c3], .int .i64 10] W fun e w' => Tells (fun b => b = false → HP np n2 n3 l0 l1 ps ws0 ws1 10) W e w' := by
  have HB := Aside0.mk (below_alloc (Below.refl _ W) (.cells #[.slice Ap np cp, .slice Ax nx cx, .int .i64 l0, .slice A2 n2 c2, .int .i64 l1, .slice A3 n3 c3] 61))
  have HG : Aside0 ((W.alloc (.cells #[.slice Ap np cp, .slice Ax nx cx, .int .i64 l0, .slice A2 n2 c2, .int .i64 l1, .slice A3 n3 c3] 61)).heap[W.heap.size]? = some (.cells #[.slice Ap np cp, .slice Ax nx cx, .int .i64 l0, .slice A2 n2 c2, .int .i64 l1, .slice A3 n3 c3] 61 (0, 0))) := ⟨blk_new W _⟩
  have HH := Aside0.mk H
  clear H
  have hg0 : (W.alloc (.cells #[.slice Ap np cp, .slice Ax nx cx, .int .i64 l0, .slice A2 n2 c2, .int .i64 l1, .slice A3 n3 c3] 61)).cell? ⟨W.heap.size, 0, none⟩ = some (.slice Ap np cp) := (blk_cell HG.out 0).trans rfl
  have hg1 : (W.alloc (.cells #[.slice Ap np cp, .slice Ax nx cx, .int .i64 l0, .slice A2 n2 c2, .int .i64 l1, .slice A3 n3 c3] 61)).cell? ⟨W.heap.size, 1, none⟩ = some (.slice Ax nx cx) := (blk_cell HG.out 1).trans rfl
  have hg2 : (W.alloc (.cells #[.slice Ap np cp, .slice Ax nx cx, .int .i64 l0, .slice A2 n2 c2, .int .i64 l1, .slice A3 n3 c3] 61)).cell? ⟨W.heap.size, 2, none⟩ = some (.int .i64 l0) := (blk_cell HG.out 2).trans rfl
  have hg3 : (W.alloc (.cells #[.slice Ap np cp, .slice Ax nx cx, .int .i64 l0, .slice A2 n2 c2, .int .i64 l1, .slice A3 n3 c3] 61)).cell? ⟨W.heap.size, 3, none⟩ = some (.slice A2 n2 c2) := (blk_cell HG.out 3).trans rfl
  have hg4 : (W.alloc (.cells #[.slice Ap np cp, .slice Ax nx cx, .int .i64 l0, .slice A2 n2 c2, .int .i64 l1, .slice A3 n3 c3] 61)).cell? ⟨W.heap.size, 4, none⟩ = some (.int .i64 l1) := (blk_cell HG.out 4).trans rfl
  have hg5 : (W.alloc (.cells #[.slice Ap np cp, .slice Ax nx cx, .int .i64 l0, .slice A2 n2 c2, .int .i64 l1, .slice A3 n3 c3] 61)).cell? ⟨W.heap.size, 5, none⟩ = some (.slice A3 n3 c3) := (blk_cell HG.out 5).trans rfl
  go_enter Try.func58, Try.ntmps58
  go_wp2_with fail
  refine (chans10_calls _ _ _ _ _ _ _ _ _ _ _ _ _ _ _ xs (HH.out.to HB.out).x HH.out.mx).mono ?_
  rintro e w3 ⟨⟨b, rfl, hb⟩, hbel⟩
  have HB3 := Aside0.mk (HB.out.trans (hbel.mono HB.out.size))
  clear hb hbel HB HG hg0 hg1 hg2 hg3 hg4 hg5
  go_wp2
  go_ret
  exact ⟨⟨b, rfl, fun _ => ⟨fun h => absurd h (by decide), fun h => absurd h (by decide), fun h => absurd h (by decide), fun h => absurd h (by decide), fun h => absurd h (by decide), fun h => absurd h (by decide), fun h => absurd h (by decide), fun h => absurd h (by decide)⟩⟩, HB3.out⟩
set_option maxRecDepth 20000 in
set_option maxHeartbeats 8000000 in
theorem holds11_calls (W : World) (Ap : Option Addr) (np cp : Nat) (Ax : Option Addr) (nx cx : Nat) (l0 : Int) (A2 : Option Addr) (n2 c2 : Nat) (l1 : Int) (A3 : Option Addr) (n3 c3 : Nat) (ps : List S69) (xs : List S87) (ws0 ws1 : List S46) (H : CF W Ap np cp Ax nx cx l0 A2 n2 c2 l1 A3 n3 c3 ps xs ws0 ws1) :
    Calls Try.prog 58 #[.agg #[.slice Ap np cp, .slice Ax nx cx, .int .i64 l0, .slice A2 n2 c2, .int .i64 l1, .slice A3 n3 c3], .int .i64 11] W fun e w' => Tells (fun b => b = false → HP np n2 n3 l0 l1 ps ws0 ws1 11) W e w' := by
  have HB := Aside0.mk (below_alloc (Below.refl _ W) (.cells #[.slice Ap np cp, .slice Ax nx cx, .int .i64 l0, .slice A2 n2 c2, .int .i64 l1, .slice A3 n3 c3] 61))
  have HG : Aside0 ((W.alloc (.cells #[.slice Ap np cp, .slice Ax nx cx, .int .i64 l0, .slice A2 n2 c2, .int .i64 l1, .slice A3 n3 c3] 61)).heap[W.heap.size]? = some (.cells #[.slice Ap np cp, .slice Ax nx cx, .int .i64 l0, .slice A2 n2 c2, .int .i64 l1, .slice A3 n3 c3] 61 (0, 0))) := ⟨blk_new W _⟩
  have HH := Aside0.mk H
  clear H
  have hg0 : (W.alloc (.cells #[.slice Ap np cp, .slice Ax nx cx, .int .i64 l0, .slice A2 n2 c2, .int .i64 l1, .slice A3 n3 c3] 61)).cell? ⟨W.heap.size, 0, none⟩ = some (.slice Ap np cp) := (blk_cell HG.out 0).trans rfl
  have hg1 : (W.alloc (.cells #[.slice Ap np cp, .slice Ax nx cx, .int .i64 l0, .slice A2 n2 c2, .int .i64 l1, .slice A3 n3 c3] 61)).cell? ⟨W.heap.size, 1, none⟩ = some (.slice Ax nx cx) := (blk_cell HG.out 1).trans rfl
  have hg2 : (W.alloc (.cells #[.slice Ap np cp, .slice Ax nx cx, .int .i64 l0, .slice A2 n2 c2, .int .i64 l1, .slice A3 n3 c3] 61)).cell? ⟨W.heap.size, 2, none⟩ = some (.int .i64 l0) := (blk_cell HG.out 2).trans rfl
  have hg3 : (W.alloc (.cells #[.slice Ap np cp, .slice Ax nx cx, .int .i64 l0, .slice A2 n2 c2, .int .i64 l1, .slice A3 n3 c3] 61)).cell? ⟨W.heap.size, 3, none⟩ = some (.slice A2 n2 c2) := (blk_cell HG.out 3).trans rfl
  have hg4 : (W.alloc (.cells #[.slice Ap np cp, .slice Ax nx cx, .int .i64 l0, .slice A2 n2 c2, .int .i64 l1, .slice A3 n3 c3] 61)).cell? ⟨W.heap.size, 4, none⟩ = some (.int .i64 l1) := (blk_cell HG.out 4).trans rfl
  have hg5 : (W.alloc (.cells #[.slice Ap np cp, .slice Ax nx cx, .int .i64 l0, .slice A2 n2 c2, .int .i64 l1, .slice A3 n3 c3] 61)).cell? ⟨W.heap.size, 5, none⟩ = some (.slice A3 n3 c3) := (blk_cell HG.out 5).trans rfl
  go_enter Try.func58, Try.ntmps58
  go_wp2_with fail
  refine (chans11_calls _ _ _ _ _ _ _ _ _ _ _ _ _ _ _ xs (HH.out.to HB.out).x HH.out.mx).mono ?_
  rintro e w3 ⟨⟨b, rfl, hb⟩, hbel⟩
  have HB3 := Aside0.mk (HB.out.trans (hbel.mono HB.out.size))
  clear hb hbel HB HG hg0 hg1 hg2 hg3 hg4 hg5
  go_wp2
  go_ret
  exact ⟨⟨b, rfl, fun _ => ⟨fun h => absurd h (by decide), fun h => absurd h (by decide), fun h => absurd h (by decide), fun h => absurd h (by decide), fun h => absurd h (by decide), fun h => absurd h (by decide), fun h => absurd h (by decide), fun h => absurd h (by decide)⟩⟩, HB3.out⟩
set_option maxRecDepth 20000 in
set_option maxHeartbeats 8000000 in
theorem holds12_calls (W : World) (Ap : Option Addr) (np cp : Nat) (Ax : Option Addr) (nx cx : Nat) (l0 : Int) (A2 : Option Addr) (n2 c2 : Nat) (l1 : Int) (A3 : Option Addr) (n3 c3 : Nat) (ps : List S69) (xs : List S87) (ws0 ws1 : List S46) (H : CF W Ap np cp Ax nx cx l0 A2 n2 c2 l1 A3 n3 c3 ps xs ws0 ws1) :
    Calls Try.prog 58 #[.agg #[.slice Ap np cp, .slice Ax nx cx, .int .i64 l0, .slice A2 n2 c2, .int .i64 l1, .slice A3 n3 c3], .int .i64 12] W fun e w' => Tells (fun b => b = false → HP np n2 n3 l0 l1 ps ws0 ws1 12) W e w' := by
  have HB := Aside0.mk (below_alloc (Below.refl _ W) (.cells #[.slice Ap np cp, .slice Ax nx cx, .int .i64 l0, .slice A2 n2 c2, .int .i64 l1, .slice A3 n3 c3] 61))
  have HG : Aside0 ((W.alloc (.cells #[.slice Ap np cp, .slice Ax nx cx, .int .i64 l0, .slice A2 n2 c2, .int .i64 l1, .slice A3 n3 c3] 61)).heap[W.heap.size]? = some (.cells #[.slice Ap np cp, .slice Ax nx cx, .int .i64 l0, .slice A2 n2 c2, .int .i64 l1, .slice A3 n3 c3] 61 (0, 0))) := ⟨blk_new W _⟩
  have HH := Aside0.mk H
  clear H
  have hg0 : (W.alloc (.cells #[.slice Ap np cp, .slice Ax nx cx, .int .i64 l0, .slice A2 n2 c2, .int .i64 l1, .slice A3 n3 c3] 61)).cell? ⟨W.heap.size, 0, none⟩ = some (.slice Ap np cp) := (blk_cell HG.out 0).trans rfl
  have hg1 : (W.alloc (.cells #[.slice Ap np cp, .slice Ax nx cx, .int .i64 l0, .slice A2 n2 c2, .int .i64 l1, .slice A3 n3 c3] 61)).cell? ⟨W.heap.size, 1, none⟩ = some (.slice Ax nx cx) := (blk_cell HG.out 1).trans rfl
  have hg2 : (W.alloc (.cells #[.slice Ap np cp, .slice Ax nx cx, .int .i64 l0, .slice A2 n2 c2, .int .i64 l1, .slice A3 n3 c3] 61)).cell? ⟨W.heap.size, 2, none⟩ = some (.int .i64 l0) := (blk_cell HG.out 2).trans rfl
  have hg3 : (W.alloc (.cells #[.slice Ap np cp, .slice Ax nx cx, .int .i64 l0, .slice A2 n2 c2, .int .i64 l1, .slice A3 n3 c3] 61)).cell? ⟨W.heap.size, 3, none⟩ = some (.slice A2 n2 c2) := (blk_cell HG.out 3).trans rfl
  have hg4 : (W.alloc (.cells #[.slice Ap np cp, .slice Ax nx cx, .int .i64 l0, .slice A2 n2 c2, .int .i64 l1, .slice A3 n3 c3] 61)).cell? ⟨W.heap.size, 4, none⟩ = some (.int .i64 l1) := (blk_cell HG.out 4).trans rfl
  have hg5 : (W.alloc (.cells #[.slice Ap np cp, .slice Ax nx cx, .int .i64 l0, .slice A2 n2 c2, .int .i64 l1, .slice A3 n3 c3] 61)).cell? ⟨W.heap.size, 5, none⟩ = some (.slice A3 n3 c3) := (blk_cell HG.out 5).trans rfl
  go_enter Try.func58, Try.ntmps58
  go_wp2_with fail
  refine (windows120_calls _ _ _ _ _ _ _ _ _ _ _ _ _ _ _ ps ws0 ws1 (HH.out.to HB.out).p (HH.out.to HB.out).a (HH.out.to HB.out).b HH.out.ma HH.out.mb).mono ?_
  rintro e w3 ⟨⟨b, rfl, hb⟩, hbel⟩
  have HB3 := Aside0.mk (HB.out.trans (hbel.mono HB.out.size))
  have HG3 := Aside0.mk (blk_below HG.out hbel)
  clear hbel HB HG hg0 hg1 hg2 hg3 hg4 hg5
  cases b with
  | true =>
    clear hb
    go_wp2
    go_ret
    exact ⟨⟨true, rfl, fun h => by cases h⟩, HB3.out⟩
  | false =>
    have HP1 := Aside0.mk (hb rfl)
    clear hb
    have hg0 : w3.cell? ⟨W.heap.size, 0, none⟩ = some (.slice Ap np cp) := (blk_cell HG3.out 0).trans rfl
    have hg1 : w3.cell? ⟨W.heap.size, 1, none⟩ = some (.slice Ax nx cx) := (blk_cell HG3.out 1).trans rfl
    have hg2 : w3.cell? ⟨W.heap.size, 2, none⟩ = some (.int .i64 l0) := (blk_cell HG3.out 2).trans rfl
    have hg3 : w3.cell? ⟨W.heap.size, 3, none⟩ = some (.slice A2 n2 c2) := (blk_cell HG3.out 3).trans rfl
    have hg4 : w3.cell? ⟨W.heap.size, 4, none⟩ = some (.int .i64 l1) := (blk_cell HG3.out 4).trans rfl
    have hg5 : w3.cell? ⟨W.heap.size, 5, none⟩ = some (.slice A3 n3 c3) := (blk_cell HG3.out 5).trans rfl
    go_wp2_with fail
    refine (windows121_calls _ _ _ _ _ _ _ _ _ _ _ _ _ _ _ ps ws0 ws1 (HH.out.to HB3.out).p (HH.out.to HB3.out).a (HH.out.to HB3.out).b HH.out.ma HH.out.mb).mono ?_
    rintro e w4 ⟨⟨b, rfl, hb⟩, hbel⟩
    have HB4 := Aside0.mk (HB3.out.trans (hbel.mono HB3.out.size))
    have HP2 := Aside0.mk hb
    clear hb hbel HB3 HG3 hg0 hg1 hg2 hg3 hg4 hg5
    go_wp2
    go_ret
    exact ⟨⟨b, rfl, fun h => ⟨fun h => absurd h (by decide), fun h => absurd h (by decide), fun _ => ⟨HP1.out, HP2.out h⟩, fun h => absurd h (by decide), fun h => absurd h (by decide), fun h => absurd h (by decide), fun h => absurd h (by decide), fun h => absurd h (by decide)⟩⟩, HB4.out⟩
set_option maxRecDepth 20000 in
set_option maxHeartbeats 8000000 in
theorem holds13_calls (W : World) (Ap : Option Addr) (np cp : Nat) (Ax : Option Addr) (nx cx : Nat) (l0 : Int) (A2 : Option Addr) (n2 c2 : Nat) (l1 : Int) (A3 : Option Addr) (n3 c3 : Nat) (ps : List S69) (xs : List S87) (ws0 ws1 : List S46) (H : CF W Ap np cp Ax nx cx l0 A2 n2 c2 l1 A3 n3 c3 ps xs ws0 ws1) :
    Calls Try.prog 58 #[.agg #[.slice Ap np cp, .slice Ax nx cx, .int .i64 l0, .slice A2 n2 c2, .int .i64 l1, .slice A3 n3 c3], .int .i64 13] W fun e w' => Tells (fun b => b = false → HP np n2 n3 l0 l1 ps ws0 ws1 13) W e w' := by
  have HB := Aside0.mk (below_alloc (Below.refl _ W) (.cells #[.slice Ap np cp, .slice Ax nx cx, .int .i64 l0, .slice A2 n2 c2, .int .i64 l1, .slice A3 n3 c3] 61))
  have HG : Aside0 ((W.alloc (.cells #[.slice Ap np cp, .slice Ax nx cx, .int .i64 l0, .slice A2 n2 c2, .int .i64 l1, .slice A3 n3 c3] 61)).heap[W.heap.size]? = some (.cells #[.slice Ap np cp, .slice Ax nx cx, .int .i64 l0, .slice A2 n2 c2, .int .i64 l1, .slice A3 n3 c3] 61 (0, 0))) := ⟨blk_new W _⟩
  have HH := Aside0.mk H
  clear H
  have hg0 : (W.alloc (.cells #[.slice Ap np cp, .slice Ax nx cx, .int .i64 l0, .slice A2 n2 c2, .int .i64 l1, .slice A3 n3 c3] 61)).cell? ⟨W.heap.size, 0, none⟩ = some (.slice Ap np cp) := (blk_cell HG.out 0).trans rfl
  have hg1 : (W.alloc (.cells #[.slice Ap np cp, .slice Ax nx cx, .int .i64 l0, .slice A2 n2 c2, .int .i64 l1, .slice A3 n3 c3] 61)).cell? ⟨W.heap.size, 1, none⟩ = some (.slice Ax nx cx) := (blk_cell HG.out 1).trans rfl
  have hg2 : (W.alloc (.cells #[.slice Ap np cp, .slice Ax nx cx, .int .i64 l0, .slice A2 n2 c2, .int .i64 l1, .slice A3 n3 c3] 61)).cell? ⟨W.heap.size, 2, none⟩ = some (.int .i64 l0) := (blk_cell HG.out 2).trans rfl
  have hg3 : (W.alloc (.cells #[.slice Ap np cp, .slice Ax nx cx, .int .i64 l0, .slice A2 n2 c2, .int .i64 l1, .slice A3 n3 c3] 61)).cell? ⟨W.heap.size, 3, none⟩ = some (.slice A2 n2 c2) := (blk_cell HG.out 3).trans rfl
  have hg4 : (W.alloc (.cells #[.slice Ap np cp, .slice Ax nx cx, .int .i64 l0, .slice A2 n2 c2, .int .i64 l1, .slice A3 n3 c3] 61)).cell? ⟨W.heap.size, 4, none⟩ = some (.int .i64 l1) := (blk_cell HG.out 4).trans rfl
  have hg5 : (W.alloc (.cells #[.slice Ap np cp, .slice Ax nx cx, .int .i64 l0, .slice A2 n2 c2, .int .i64 l1, .slice A3 n3 c3] 61)).cell? ⟨W.heap.size, 5, none⟩ = some (.slice A3 n3 c3) := (blk_cell HG.out 5).trans rfl
  go_enter Try.func58, Try.ntmps58
  go_wp2_with fail
  refine (windows130_calls _ _ _ _ _ _ _ _ _ _ _ _ _ _ _ ps ws0 ws1 (HH.out.to HB.out).p (HH.out.to HB.out).a (HH.out.to HB.out).b HH.out.ma HH.out.mb).mono ?_
  rintro e w3 ⟨⟨b, rfl, hb⟩, hbel⟩
  have HB3 := Aside0.mk (HB.out.trans (hbel.mono HB.out.size))
  have HG3 := Aside0.mk (blk_below HG.out hbel)
  clear hbel HB HG hg0 hg1 hg2 hg3 hg4 hg5
  cases b with
  | true =>
    clear hb
    go_wp2
    go_ret
    exact ⟨⟨true, rfl, fun h => by cases h⟩, HB3.out⟩
  | false =>
    have HP1 := Aside0.mk (hb rfl)
    clear hb
    have hg0 : w3.cell? ⟨W.heap.size, 0, none⟩ = some (.slice Ap np cp) := (blk_cell HG3.out 0).trans rfl
    have hg1 : w3.cell? ⟨W.heap.size, 1, none⟩ = some (.slice Ax nx cx) := (blk_cell HG3.out 1).trans rfl
    have hg2 : w3.cell? ⟨W.heap.size, 2, none⟩ = some (.int .i64 l0) := (blk_cell HG3.out 2).trans rfl
    have hg3 : w3.cell? ⟨W.heap.size, 3, none⟩ = some (.slice A2 n2 c2) := (blk_cell HG3.out 3).trans rfl
    have hg4 : w3.cell? ⟨W.heap.size, 4, none⟩ = some (.int .i64 l1) := (blk_cell HG3.out 4).trans rfl
    have hg5 : w3.cell? ⟨W.heap.size, 5, none⟩ = some (.slice A3 n3 c3) := (blk_cell HG3.out 5).trans rfl
    go_wp2_with fail
    refine (windows131_calls _ _ _ _ _ _ _ _ _ _ _ _ _ _ _ ps ws0 ws1 (HH.out.to HB3.out).p (HH.out.to HB3.out).a (HH.out.to HB3.out).b HH.out.ma HH.out.mb).mono ?_
    rintro e w4 ⟨⟨b, rfl, hb⟩, hbel⟩
    have HB4 := Aside0.mk (HB3.out.trans (hbel.mono HB3.out.size))
    have HP2 := Aside0.mk hb
    clear hb hbel HB3 HG3 hg0 hg1 hg2 hg3 hg4 hg5
    go_wp2
    go_ret
    exact ⟨⟨b, rfl, fun h => ⟨fun h => absurd h (by decide), fun h => absurd h (by decide), fun h => absurd h (by decide), fun _ => ⟨HP1.out, HP2.out h⟩, fun h => absurd h (by decide), fun h => absurd h (by decide), fun h => absurd h (by decide), fun h => absurd h (by decide)⟩⟩, HB4.out⟩
set_option maxRecDepth 20000 in
set_option maxHeartbeats 8000000 in
theorem holds14_calls (W : World) (Ap : Option Addr) (np cp : Nat) (Ax : Option Addr) (nx cx : Nat) (l0 : Int) (A2 : Option Addr) (n2 c2 : Nat) (l1 : Int) (A3 : Option Addr) (n3 c3 : Nat) (ps : List S69) (xs : List S87) (ws0 ws1 : List S46) (H : CF W Ap np cp Ax nx cx l0 A2 n2 c2 l1 A3 n3 c3 ps xs ws0 ws1) :
    Calls Try.prog 58 #[.agg #[.slice Ap np cp, .slice Ax nx cx, .int .i64 l0, .slice A2 n2 c2, .int .i64 l1, .slice A3 n3 c3], .int .i64 14] W fun e w' => Tells (fun b => b = false → HP np n2 n3 l0 l1 ps ws0 ws1 14) W e w' := by
  have HB := Aside0.mk (below_alloc (Below.refl _ W) (.cells #[.slice Ap np cp, .slice Ax nx cx, .int .i64 l0, .slice A2 n2 c2, .int .i64 l1, .slice A3 n3 c3] 61))
  have HG : Aside0 ((W.alloc (.cells #[.slice Ap np cp, .slice Ax nx cx, .int .i64 l0, .slice A2 n2 c2, .int .i64 l1, .slice A3 n3 c3] 61)).heap[W.heap.size]? = some (.cells #[.slice Ap np cp, .slice Ax nx cx, .int .i64 l0, .slice A2 n2 c2, .int .i64 l1, .slice A3 n3 c3] 61 (0, 0))) := ⟨blk_new W _⟩
  have HH := Aside0.mk H
  clear H
  have hg0 : (W.alloc (.cells #[.slice Ap np cp, .slice Ax nx cx, .int .i64 l0, .slice A2 n2 c2, .int .i64 l1, .slice A3 n3 c3] 61)).cell? ⟨W.heap.size, 0, none⟩ = some (.slice Ap np cp) := (blk_cell HG.out 0).trans rfl
  have hg1 : (W.alloc (.cells #[.slice Ap np cp, .slice Ax nx cx, .int .i64 l0, .slice A2 n2 c2, .int .i64 l1, .slice A3 n3 c3] 61)).cell? ⟨W.heap.size, 1, none⟩ = some (.slice Ax nx cx) := (blk_cell HG.out 1).trans rfl
  have hg2 : (W.alloc (.cells #[.slice Ap np cp, .slice Ax nx cx, .int .i64 l0, .slice A2 n2 c2, .int .i64 l1, .slice A3 n3 c3] 61)).cell? ⟨W.heap.size, 2, none⟩ = some (.int .i64 l0) := (blk_cell HG.out 2).trans rfl
  have hg3 : (W.alloc (.cells #[.slice Ap np cp, .slice Ax nx cx, .int .i64 l0, .slice A2 n2 c2, .int .i64 l1, .slice A3 n3 c3] 61)).cell? ⟨W.heap.size, 3, none⟩ = some (.slice A2 n2 c2) := (blk_cell HG.out 3).trans rfl
  have hg4 : (W.alloc (.cells #[.slice Ap np cp, .slice Ax nx cx, .int .i64 l0, .slice A2 n2 c2, .int .i64 l1, .slice A3 n3 c3] 61)).cell? ⟨W.heap.size, 4, none⟩ = some (.int .i64 l1) := (blk_cell HG.out 4).trans rfl
  have hg5 : (W.alloc (.cells #[.slice Ap np cp, .slice Ax nx cx, .int .i64 l0, .slice A2 n2 c2, .int .i64 l1, .slice A3 n3 c3] 61)).cell? ⟨W.heap.size, 5, none⟩ = some (.slice A3 n3 c3) := (blk_cell HG.out 5).trans rfl
  go_enter Try.func58, Try.ntmps58
  go_wp2_with fail
  refine (windows140_calls _ _ _ _ _ _ _ _ _ _ _ _ _ _ _ ps ws0 ws1 (HH.out.to HB.out).p (HH.out.to HB.out).a (HH.out.to HB.out).b HH.out.ma HH.out.mb).mono ?_
  rintro e w3 ⟨⟨b, rfl, hb⟩, hbel⟩
  have HB3 := Aside0.mk (HB.out.trans (hbel.mono HB.out.size))
  have HG3 := Aside0.mk (blk_below HG.out hbel)
  clear hbel HB HG hg0 hg1 hg2 hg3 hg4 hg5
  cases b with
  | true =>
    clear hb
    go_wp2
    go_ret
    exact ⟨⟨true, rfl, fun h => by cases h⟩, HB3.out⟩
  | false =>
    have HP1 := Aside0.mk (hb rfl)
    clear hb
    have hg0 : w3.cell? ⟨W.heap.size, 0, none⟩ = some (.slice Ap np cp) := (blk_cell HG3.out 0).trans rfl
    have hg1 : w3.cell? ⟨W.heap.size, 1, none⟩ = some (.slice Ax nx cx) := (blk_cell HG3.out 1).trans rfl
    have hg2 : w3.cell? ⟨W.heap.size, 2, none⟩ = some (.int .i64 l0) := (blk_cell HG3.out 2).trans rfl
    have hg3 : w3.cell? ⟨W.heap.size, 3, none⟩ = some (.slice A2 n2 c2) := (blk_cell HG3.out 3).trans rfl
    have hg4 : w3.cell? ⟨W.heap.size, 4, none⟩ = some (.int .i64 l1) := (blk_cell HG3.out 4).trans rfl
    have hg5 : w3.cell? ⟨W.heap.size, 5, none⟩ = some (.slice A3 n3 c3) := (blk_cell HG3.out 5).trans rfl
    go_wp2_with fail
    refine (windows141_calls _ _ _ _ _ _ _ _ _ _ _ _ _ _ _ ps ws0 ws1 (HH.out.to HB3.out).p (HH.out.to HB3.out).a (HH.out.to HB3.out).b HH.out.ma HH.out.mb).mono ?_
    rintro e w4 ⟨⟨b, rfl, hb⟩, hbel⟩
    have HB4 := Aside0.mk (HB3.out.trans (hbel.mono HB3.out.size))
    have HP2 := Aside0.mk hb
    clear hb hbel HB3 HG3 hg0 hg1 hg2 hg3 hg4 hg5
    go_wp2
    go_ret
    exact ⟨⟨b, rfl, fun h => ⟨fun h => absurd h (by decide), fun h => absurd h (by decide), fun h => absurd h (by decide), fun h => absurd h (by decide), fun _ => ⟨HP1.out, HP2.out h⟩, fun h => absurd h (by decide), fun h => absurd h (by decide), fun h => absurd h (by decide)⟩⟩, HB4.out⟩
set_option maxRecDepth 20000 in
set_option maxHeartbeats 8000000 in
theorem holds15_calls (W : World) (Ap : Option Addr) (np cp : Nat) (Ax : Option Addr) (nx cx : Nat) (l0 : Int) (A2 : Option Addr) (n2 c2 : Nat) (l1 : Int) (A3 : Option Addr) (n3 c3 : Nat) (ps : List S69) (xs : List S87) (ws0 ws1 : List S46) (H : CF W Ap np cp Ax nx cx l0 A2 n2 c2 l1 A3 n3 c3 ps xs ws0 ws1) :
    Calls Try.prog 58 #[.agg #[.slice Ap np cp, .slice Ax nx cx, .int .i64 l0, .slice A2 n2 c2, .int .i64 l1, .slice A3 n3 c3], .int .i64 15] W fun e w' => Tells (fun b => b = false → HP np n2 n3 l0 l1 ps ws0 ws1 15) W e w' := by
  have HB := Aside0.mk (below_alloc (Below.refl _ W) (.cells #[.slice Ap np cp, .slice Ax nx cx, .int .i64 l0, .slice A2 n2 c2, .int .i64 l1, .slice A3 n3 c3] 61))
  have HG : Aside0 ((W.alloc (.cells #[.slice Ap np cp, .slice Ax nx cx, .int .i64 l0, .slice A2 n2 c2, .int .i64 l1, .slice A3 n3 c3] 61)).heap[W.heap.size]? = some (.cells #[.slice Ap np cp, .slice Ax nx cx, .int .i64 l0, .slice A2 n2 c2, .int .i64 l1, .slice A3 n3 c3] 61 (0, 0))) := ⟨blk_new W _⟩
  have HH := Aside0.mk H
  clear H
  have hg0 : (W.alloc (.cells #[.slice Ap np cp, .slice Ax nx cx, .int .i64 l0, .slice A2 n2 c2, .int .i64 l1, .slice A3 n3 c3] 61)).cell? ⟨W.heap.size, 0, none⟩ = some (.slice Ap np cp) := (blk_cell HG.out 0).trans rfl
  have hg1 : (W.alloc (.cells #[.slice Ap np cp, .slice Ax nx cx, .int .i64 l0, .slice A2 n2 c2, .int .i64 l1, .slice A3 n3 c3] 61)).cell? ⟨W.heap.size, 1, none⟩ = some (.slice Ax nx cx) := (blk_cell HG.out 1).trans rfl
  have hg2 : (W.alloc (.cells #[.slice Ap np cp, .slice Ax nx cx, .int .i64 l0, .slice A2 n2 c2, .int .i64 l1, .slice A3 n3 c3] 61)).cell? ⟨W.heap.size, 2, none⟩ = some (.int .i64 l0) := (blk_cell HG.out 2).trans rfl
  have hg3 : (W.alloc (.cells #[.slice Ap np cp, .slice Ax nx cx, .int .i64 l0, .slice A2 n2 c2, .int .i64 l1, .slice A3 n3 c3] 61)).cell? ⟨W.heap.size, 3, none⟩ = some (.slice A2 n2 c2) := (blk_cell HG.out 3).trans rfl
  have hg4 : (W.alloc (.cells #[.slice Ap np cp, .slice Ax nx cx, .int .i64 l0, .slice A2 n2 c2, .int .i64 l1, .slice A3 n3 c3] 61)).cell? ⟨W.heap.size, 4, none⟩ = some (.int .i64 l1) := (blk_cell HG.out 4).trans rfl
  have hg5 : (W.alloc (.cells #[.slice Ap np cp, .slice Ax nx cx, .int .i64 l0, .slice A2 n2 c2, .int .i64 l1, .slice A3 n3 c3] 61)).cell? ⟨W.heap.size, 5, none⟩ = some (.slice A3 n3 c3) := (blk_cell HG.out 5).trans rfl
  go_enter Try.func58, Try.ntmps58
  go_wp2_with fail
  refine (windows150_calls _ _ _ _ _ _ _ _ _ _ _ _ _ _ _ ps ws0 ws1 (HH.out.to HB.out).p (HH.out.to HB.out).a (HH.out.to HB.out).b HH.out.ma HH.out.mb).mono ?_
  rintro e w3 ⟨⟨b, rfl, hb⟩, hbel⟩
  have HB3 := Aside0.mk (HB.out.trans (hbel.mono HB.out.size))
  have HG3 := Aside0.mk (blk_below HG.out hbel)
  clear hbel HB HG hg0 hg1 hg2 hg3 hg4 hg5
  cases b with
  | true =>
    clear hb
    go_wp2
    go_ret
    exact ⟨⟨true, rfl, fun h => by cases h⟩, HB3.out⟩
  | false =>
    have HP1 := Aside0.mk (hb rfl)
    clear hb
    have hg0 : w3.cell? ⟨W.heap.size, 0, none⟩ = some (.slice Ap np cp) := (blk_cell HG3.out 0).trans rfl
    have hg1 : w3.cell? ⟨W.heap.size, 1, none⟩ = some (.slice Ax nx cx) := (blk_cell HG3.out 1).trans rfl
    have hg2 : w3.cell? ⟨W.heap.size, 2, none⟩ = some (.int .i64 l0) := (blk_cell HG3.out 2).trans rfl
    have hg3 : w3.cell? ⟨W.heap.size, 3, none⟩ = some (.slice A2 n2 c2) := (blk_cell HG3.out 3).trans rfl
    have hg4 : w3.cell? ⟨W.heap.size, 4, none⟩ = some (.int .i64 l1) := (blk_cell HG3.out 4).trans rfl
    have hg5 : w3.cell? ⟨W.heap.size, 5, none⟩ = some (.slice A3 n3 c3) := (blk_cell HG3.out 5).trans rfl
    go_wp2_with fail
    refine (windows151_calls _ _ _ _ _ _ _ _ _ _ _ _ _ _ _ ps ws0 ws1 (HH.out.to HB3.out).p (HH.out.to HB3.out).a (HH.out.to HB3.out).b HH.out.ma HH.out.mb).mono ?_
    rintro e w4 ⟨⟨b, rfl, hb⟩, hbel⟩
    have HB4 := Aside0.mk (HB3.out.trans (hbel.mono HB3.out.size))
    have HP2 := Aside0.mk hb
    clear hb hbel HB3 HG3 hg0 hg1 hg2 hg3 hg4 hg5
    go_wp2
    go_ret
    exact ⟨⟨b, rfl, fun h => ⟨fun h => absurd h (by decide), fun h => absurd h (by decide), fun h => absurd h (by decide), fun h => absurd h (by decide), fun h => absurd h (by decide), fun _ => ⟨HP1.out, HP2.out h⟩, fun h => absurd h (by decide), fun h => absurd h (by decide)⟩⟩, HB4.out⟩
set_option maxRecDepth 20000 in
set_option maxHeartbeats 8000000 in
theorem holds16_calls (W : World) (Ap : Option Addr) (np cp : Nat) (Ax : Option Addr) (nx cx : Nat) (l0 : Int) (A2 : Option Addr) (n2 c2 : Nat) (l1 : Int) (A3 : Option Addr) (n3 c3 : Nat) (ps : List S69) (xs : List S87) (ws0 ws1 : List S46) (H : CF W Ap np cp Ax nx cx l0 A2 n2 c2 l1 A3 n3 c3 ps xs ws0 ws1) :
    Calls Try.prog 58 #[.agg #[.slice Ap np cp, .slice Ax nx cx, .int .i64 l0, .slice A2 n2 c2, .int .i64 l1, .slice A3 n3 c3], .int .i64 16] W fun e w' => Tells (fun b => b = false → HP np n2 n3 l0 l1 ps ws0 ws1 16) W e w' := by
  have HB := Aside0.mk (below_alloc (Below.refl _ W) (.cells #[.slice Ap np cp, .slice Ax nx cx, .int .i64 l0, .slice A2 n2 c2, .int .i64 l1, .slice A3 n3 c3] 61))
  have HG : Aside0 ((W.alloc (.cells #[.slice Ap np cp, .slice Ax nx cx, .int .i64 l0, .slice A2 n2 c2, .int .i64 l1, .slice A3 n3 c3] 61)).heap[W.heap.size]? = some (.cells #[.slice Ap np cp, .slice Ax nx cx, .int .i64 l0, .slice A2 n2 c2, .int .i64 l1, .slice A3 n3 c3] 61 (0, 0))) := ⟨blk_new W _⟩
  have HH := Aside0.mk H
  clear H
  have hg0 : (W.alloc (.cells #[.slice Ap np cp, .slice Ax nx cx, .int .i64 l0, .slice A2 n2 c2, .int .i64 l1, .slice A3 n3 c3] 61)).cell? ⟨W.heap.size, 0, none⟩ = some (.slice Ap np cp) := (blk_cell HG.out 0).trans rfl
  have hg1 : (W.alloc (.cells #[.slice Ap np cp, .slice Ax nx cx, .int .i64 l0, .slice A2 n2 c2, .int .i64 l1, .slice A3 n3 c3] 61)).cell? ⟨W.heap.size, 1, none⟩ = some (.slice Ax nx cx) := (blk_cell HG.out 1).trans rfl
  have hg2 : (W.alloc (.cells #[.slice Ap np cp, .slice Ax nx cx, .int .i64 l0, .slice A2 n2 c2, .int .i64 l1, .slice A3 n3 c3] 61)).cell? ⟨W.heap.size, 2, none⟩ = some (.int .i64 l0) := (blk_cell HG.out 2).trans rfl
  have hg3 : (W.alloc (.cells #[.slice Ap np cp, .slice Ax nx cx, .int .i64 l0, .slice A2 n2 c2, .int .i64 l1, .slice A3 n3 c3] 61)).cell? ⟨W.heap.size, 3, none⟩ = some (.slice A2 n2 c2) := (blk_cell HG.out 3).trans rfl
  have hg4 : (W.alloc (.cells #[.slice Ap np cp, .slice Ax nx cx, .int .i64 l0, .slice A2 n2 c2, .int .i64 l1, .slice A3 n3 c3] 61)).cell? ⟨W.heap.size, 4, none⟩ = some (.int .i64 l1) := (blk_cell HG.out 4).trans rfl
  have hg5 : (W.alloc (.cells #[.slice Ap np cp, .slice Ax nx cx, .int .i64 l0, .slice A2 n2 c2, .int .i64 l1, .slice A3 n3 c3] 61)).cell? ⟨W.heap.size, 5, none⟩ = some (.slice A3 n3 c3) := (blk_cell HG.out 5).trans rfl
  go_enter Try.func58, Try.ntmps58
  go_wp2_with fail
  refine (windows160_calls _ _ _ _ _ _ _ _ _ _ _ _ _ _ _ ps ws0 ws1 (HH.out.to HB.out).p (HH.out.to HB.out).a (HH.out.to HB.out).b HH.out.ma HH.out.mb).mono ?_
  rintro e w3 ⟨⟨b, rfl, hb⟩, hbel⟩
  have HB3 := Aside0.mk (HB.out.trans (hbel.mono HB.out.size))
  have HG3 := Aside0.mk (blk_below HG.out hbel)
  clear hbel HB HG hg0 hg1 hg2 hg3 hg4 hg5
  cases b with
  | true =>
    clear hb
    go_wp2
    go_ret
    exact ⟨⟨true, rfl, fun h => by cases h⟩, HB3.out⟩
  | false =>
    have HP1 := Aside0.mk (hb rfl)
    clear hb
    have hg0 : w3.cell? ⟨W.heap.size, 0, none⟩ = some (.slice Ap np cp) := (blk_cell HG3.out 0).trans rfl
    have hg1 : w3.cell? ⟨W.heap.size, 1, none⟩ = some (.slice Ax nx cx) := (blk_cell HG3.out 1).trans rfl
    have hg2 : w3.cell? ⟨W.heap.size, 2, none⟩ = some (.int .i64 l0) := (blk_cell HG3.out 2).trans rfl
    have hg3 : w3.cell? ⟨W.heap.size, 3, none⟩ = some (.slice A2 n2 c2) := (blk_cell HG3.out 3).trans rfl
    have hg4 : w3.cell? ⟨W.heap.size, 4, none⟩ = some (.int .i64 l1) := (blk_cell HG3.out 4).trans rfl
    have hg5 : w3.cell? ⟨W.heap.size, 5, none⟩ = some (.slice A3 n3 c3) := (blk_cell HG3.out 5).trans rfl
    go_wp2_with fail
    refine (windows161_calls _ _ _ _ _ _ _ _ _ _ _ _ _ _ _ ps ws0 ws1 (HH.out.to HB3.out).p (HH.out.to HB3.out).a (HH.out.to HB3.out).b HH.out.ma HH.out.mb).mono ?_
    rintro e w4 ⟨⟨b, rfl, hb⟩, hbel⟩
    have HB4 := Aside0.mk (HB3.out.trans (hbel.mono HB3.out.size))
    have HP2 := Aside0.mk hb
    clear hb hbel HB3 HG3 hg0 hg1 hg2 hg3 hg4 hg5
    go_wp2
    go_ret
    exact ⟨⟨b, rfl, fun h => ⟨fun h => absurd h (by decide), fun h => absurd h (by decide), fun h => absurd h (by decide), fun h => absurd h (by decide), fun h => absurd h (by decide), fun h => absurd h (by decide), fun _ => ⟨HP1.out, HP2.out h⟩, fun h => absurd h (by decide)⟩⟩, HB4.out⟩
set_option maxRecDepth 20000 in
set_option maxHeartbeats 8000000 in
theorem holds17_calls (W : World) (Ap : Option Addr) (np cp : Nat) (Ax : Option Addr) (nx cx : Nat) (l0 : Int) (A2 : Option Addr) (n2 c2 : Nat) (l1 : Int) (A3 : Option Addr) (n3 c3 : Nat) (ps : List S69) (xs : List S87) (ws0 ws1 : List S46) (H : CF W Ap np cp Ax nx cx l0 A2 n2 c2 l1 A3 n3 c3 ps xs ws0 ws1) :
    Calls Try.prog 58 #[.agg #[.slice Ap np cp, .slice Ax nx cx, .int .i64 l0, .slice A2 n2 c2, .int .i64 l1, .slice A3 n3 c3], .int .i64 17] W fun e w' => Tells (fun b => b = false → HP np n2 n3 l0 l1 ps ws0 ws1 17) W e w' := by
  have HB := Aside0.mk (below_alloc (Below.refl _ W) (.cells #[.slice Ap np cp, .slice Ax nx cx, .int .i64 l0, .slice A2 n2 c2, .int .i64 l1, .slice A3 n3 c3] 61))
  have HG : Aside0 ((W.alloc (.cells #[.slice Ap np cp, .slice Ax nx cx, .int .i64 l0, .slice A2 n2 c2, .int .i64 l1, .slice A3 n3 c3] 61)).heap[W.heap.size]? = some (.cells #[.slice Ap np cp, .slice Ax nx cx, .int .i64 l0, .slice A2 n2 c2, .int .i64 l1, .slice A3 n3 c3] 61 (0, 0))) := ⟨blk_new W _⟩
  have HH := Aside0.mk H
  clear H
  go_enter Try.func58, Try.ntmps58
  go_wp2_with fail
  go_loopw [5] (fun v wr => ∃ x : Int, 0 ≤ x ∧ x ≤ np ∧ v = .int .i64 x ∧ Aside0 (wr.heap[W.heap.size]? = some (.cells #[.slice Ap np cp, .slice Ax nx cx, .int .i64 l0, .slice A2 n2 c2, .int .i64 l1, .slice A3 n3 c3] 61 (0, 0))) ∧ Aside0 (Below W.heap.size W wr) ∧ Aside0 (allTo (winOk ps n2 n3 ws0 ws1) x)) (fun v _ => (np - (intOf v)).toNat)
  case atStart => exact ⟨0, by omega, by omega, rfl, HG, HB, ⟨allTo_zero _⟩⟩
  case round =>
    clear HB HG
    obtain ⟨x, hx0, hx1, rfl, HG, HB, HA⟩ := hrel
    have hmp := HH.out.mp
    have hg0 : wr.cell? ⟨W.heap.size, 0, none⟩ = some (.slice Ap np cp) := (blk_cell HG.out 0).trans rfl
    have hg1 : wr.cell? ⟨W.heap.size, 1, none⟩ = some (.slice Ax nx cx) := (blk_cell HG.out 1).trans rfl
    have hg2 : wr.cell? ⟨W.heap.size, 2, none⟩ = some (.int .i64 l0) := (blk_cell HG.out 2).trans rfl
    have hg3 : wr.cell? ⟨W.heap.size, 3, none⟩ = some (.slice A2 n2 c2) := (blk_cell HG.out 3).trans rfl
    have hg4 : wr.cell? ⟨W.heap.size, 4, none⟩ = some (.int .i64 l1) := (blk_cell HG.out 4).trans rfl
    have hg5 : wr.cell? ⟨W.heap.size, 5, none⟩ = some (.slice A3 n3 c3) := (blk_cell HG.out 5).trans rfl
    by_cases hlt : x < (np : Int)
    · have hd : decide (x < (np : Int)) = true := decide_eq_true hlt
      have hw1 : wrap64 (x + 1) = x + 1 := by unfold wrap64; omega
      clear hmp
      obtain ⟨ax, rfl, d0, d1⟩ := at_T69 (HH.out.to HB.out).p x hx0 hlt
      obtain ⟨a0, ha0⟩ : ∃ a, (rd_T69 ps x).f0 = a := ⟨_, rfl⟩
      obtain ⟨a1, ha1⟩ : ∃ a, (rd_T69 ps x).f1 = a := ⟨_, rfl⟩
      rw [ha0] at d0
      rw [ha1] at d1
      have HE := Aside0.mk ha0
      clear ha0 ha1
      have hbk := below_alloc (Below.refl _ wr) (.cells #[.int .i64 a0, .int .i64 a1] 69)
      have HB1 := Aside0.mk (HB.out.trans (hbk.mono HB.out.size))
      have HG1 := Aside0.mk (blk_below HG.out hbk)
      have HK1 : Aside0 ((wr.alloc (.cells #[.int .i64 a0, .int .i64 a1] 69)).heap[wr.heap.size]? = some (.cells #[.int .i64 a0, .int .i64 a1] 69 (0, 0))) := ⟨blk_new wr _⟩
      clear hbk HB HG
      have hj0 : (wr.alloc (.cells #[.int .i64 a0, .int .i64 a1] 69)).cell? ⟨W.heap.size, 0, none⟩ = some (.slice (some ax) np cp) := (blk_cell HG1.out 0).trans rfl
      have hj1 : (wr.alloc (.cells #[.int .i64 a0, .int .i64 a1] 69)).cell? ⟨W.heap.size, 1, none⟩ = some (.slice Ax nx cx) := (blk_cell HG1.out 1).trans rfl
      have hj2 : (wr.alloc (.cells #[.int .i64 a0, .int .i64 a1] 69)).cell? ⟨W.heap.size, 2, none⟩ = some (.int .i64 l0) := (blk_cell HG1.out 2).trans rfl
      have hj3 : (wr.alloc (.cells #[.int .i64 a0, .int .i64 a1] 69)).cell? ⟨W.heap.size, 3, none⟩ = some (.slice A2 n2 c2) := (blk_cell HG1.out 3).trans rfl
      have hj4 : (wr.alloc (.cells #[.int .i64 a0, .int .i64 a1] 69)).cell? ⟨W.heap.size, 4, none⟩ = some (.int .i64 l1) := (blk_cell HG1.out 4).trans rfl
      have hj5 : (wr.alloc (.cells #[.int .i64 a0, .int .i64 a1] 69)).cell? ⟨W.heap.size, 5, none⟩ = some (.slice A3 n3 c3) := (blk_cell HG1.out 5).trans rfl
      have hk0 : (wr.alloc (.cells #[.int .i64 a0, .int .i64 a1] 69)).cell? ⟨wr.heap.size, 0, none⟩ = some (.int .i64 a0) := (blk_cell HK1.out 0).trans rfl
      have hk1 : (wr.alloc (.cells #[.int .i64 a0, .int .i64 a1] 69)).cell? ⟨wr.heap.size, 1, none⟩ = some (.int .i64 a1) := (blk_cell HK1.out 1).trans rfl
      go_wp2_with fail
      refine (window_calls _ _ _ _ _ _ _ _ _ _ _ _ _ _ _ ps ws0 ws1 (HH.out.to HB1.out).p (HH.out.to HB1.out).a (HH.out.to HB1.out).b HH.out.ma HH.out.mb x hx0 hlt).mono ?_
      rintro e w3 ⟨⟨b, rfl, hb⟩, hbel⟩
      have HB3 := Aside0.mk (HB1.out.trans (hbel.mono HB1.out.size))
      have HG3 := Aside0.mk (blk_below HG1.out hbel)
      clear hbel HB1 HG1 HK1 hg0 hg1 hg2 hg3 hg4 hg5 hj0 hj1 hj2 hj3 hj4 hj5 hk0 hk1 d0 d1
      cases b with
      | true =>
        have HA2 := Aside0.mk (allTo_succ HA.out (show winOk ps n2 n3 ws0 ws1 x from hb rfl))
        clear hb HE HA
        go_wp2
        go_roundw
        case rel => exact ⟨x + 1, by omega, by omega, by go_num, HG3, HB3, HA2⟩
        case measure => simp [intOf]; omega
      | false =>
        clear hb HE HA
        go_wp2
        go_ret
        exact ⟨⟨true, rfl, fun h => by cases h⟩, HB3.out⟩
    · have hd : decide (x < (np : Int)) = false := decide_eq_false hlt
      obtain rfl : x = np := by omega
      clear hmp
      go_wp2
      go_ret
      exact ⟨⟨false, rfl, fun _ => ⟨fun h => absurd h (by decide), fun h => absurd h (by decide), fun h => absurd h (by decide), fun h => absurd h (by decide), fun h => absurd h (by decide), fun h => absurd h (by decide), fun h => absurd h (by decide), fun _ => HA.out⟩⟩, HB.out⟩
/-- A list of which this is known if it is empty. -/
structure AllT (Q : Prop) (w : World) (e : Ending) (w' : World) : Prop where
  all : ∃ A n c, e = .returned (.slice A n c) ∧ (n = 0 → Q)
  bel : Below w.heap.size w w'
theorem holds_calls (W : World) (Ap : Option Addr) (np cp : Nat) (Ax : Option Addr) (nx cx : Nat) (l0 : Int) (A2 : Option Addr) (n2 c2 : Nat) (l1 : Int) (A3 : Option Addr) (n3 c3 : Nat) (ps : List S69) (xs : List S87) (ws0 ws1 : List S46) (H : CF W Ap np cp Ax nx cx l0 A2 n2 c2 l1 A3 n3 c3 ps xs ws0 ws1) (k : Int) (h1 : 1 ≤ k) (h2 : k ≤ 17) :
    Calls Try.prog 58 #[.agg #[.slice Ap np cp, .slice Ax nx cx, .int .i64 l0, .slice A2 n2 c2, .int .i64 l1, .slice A3 n3 c3], .int .i64 k] W fun e w' => Tells (fun b => b = false → HP np n2 n3 l0 l1 ps ws0 ws1 k) W e w' := by
  have hk : k = 1 ∨ k = 2 ∨ k = 3 ∨ k = 4 ∨ k = 5 ∨ k = 6 ∨ k = 7 ∨ k = 8 ∨ k = 9 ∨ k = 10 ∨ k = 11 ∨ k = 12 ∨ k = 13 ∨ k = 14 ∨ k = 15 ∨ k = 16 ∨ k = 17 := by omega
  rcases hk with rfl | rfl | rfl | rfl | rfl | rfl | rfl | rfl | rfl | rfl | rfl | rfl | rfl | rfl | rfl | rfl | rfl
  · exact holds1_calls W Ap np cp Ax nx cx l0 A2 n2 c2 l1 A3 n3 c3 ps xs ws0 ws1 H
  · exact holds2_calls W Ap np cp Ax nx cx l0 A2 n2 c2 l1 A3 n3 c3 ps xs ws0 ws1 H
  · exact holds3_calls W Ap np cp Ax nx cx l0 A2 n2 c2 l1 A3 n3 c3 ps xs ws0 ws1 H
  · exact holds4_calls W Ap np cp Ax nx cx l0 A2 n2 c2 l1 A3 n3 c3 ps xs ws0 ws1 H
  · exact holds5_calls W Ap np cp Ax nx cx l0 A2 n2 c2 l1 A3 n3 c3 ps xs ws0 ws1 H
  · exact holds6_calls W Ap np cp Ax nx cx l0 A2 n2 c2 l1 A3 n3 c3 ps xs ws0 ws1 H
  · exact holds7_calls W Ap np cp Ax nx cx l0 A2 n2 c2 l1 A3 n3 c3 ps xs ws0 ws1 H
  · exact holds8_calls W Ap np cp Ax nx cx l0 A2 n2 c2 l1 A3 n3 c3 ps xs ws0 ws1 H
  · exact holds9_calls W Ap np cp Ax nx cx l0 A2 n2 c2 l1 A3 n3 c3 ps xs ws0 ws1 H
  · exact holds10_calls W Ap np cp Ax nx cx l0 A2 n2 c2 l1 A3 n3 c3 ps xs ws0 ws1 H
  · exact holds11_calls W Ap np cp Ax nx cx l0 A2 n2 c2 l1 A3 n3 c3 ps xs ws0 ws1 H
  · exact holds12_calls W Ap np cp Ax nx cx l0 A2 n2 c2 l1 A3 n3 c3 ps xs ws0 ws1 H
  · exact holds13_calls W Ap np cp Ax nx cx l0 A2 n2 c2 l1 A3 n3 c3 ps xs ws0 ws1 H
  · exact holds14_calls W Ap np cp Ax nx cx l0 A2 n2 c2 l1 A3 n3 c3 ps xs ws0 ws1 H
  · exact holds15_calls W Ap np cp Ax nx cx l0 A2 n2 c2 l1 A3 n3 c3 ps xs ws0 ws1 H
  · exact holds16_calls W Ap np cp Ax nx cx l0 A2 n2 c2 l1 A3 n3 c3 ps xs ws0 ws1 H
  · exact holds17_calls W Ap np cp Ax nx cx l0 A2 n2 c2 l1 A3 n3 c3 ps xs ws0 ws1 H
set_option maxRecDepth 20000 in
set_option maxHeartbeats 8000000 in
theorem all_calls (W : World) (Ap : Option Addr) (np cp : Nat) (Ax : Option Addr) (nx cx : Nat) (l0 : Int) (A2 : Option Addr) (n2 c2 : Nat) (l1 : Int) (A3 : Option Addr) (n3 c3 : Nat) (ps : List S69) (xs : List S87) (ws0 ws1 : List S46) (H : CF W Ap np cp Ax nx cx l0 A2 n2 c2 l1 A3 n3 c3 ps xs ws0 ws1) :
    Calls Try.prog 55 #[.agg #[.slice Ap np cp, .slice Ax nx cx, .int .i64 l0, .slice A2 n2 c2, .int .i64 l1, .slice A3 n3 c3]] W fun e w' => AllT (allTo (fun i => 1 ≤ i → HP np n2 n3 l0 l1 ps ws0 ws1 i) 18) W e w' := by
  have HB := Aside0.mk (below_alloc (Below.refl _ W) (.cells #[.slice Ap np cp, .slice Ax nx cx, .int .i64 l0, .slice A2 n2 c2, .int .i64 l1, .slice A3 n3 c3] 61))
  have HG : Aside0 ((W.alloc (.cells #[.slice Ap np cp, .slice Ax nx cx, .int .i64 l0, .slice A2 n2 c2, .int .i64 l1, .slice A3 n3 c3] 61)).heap[W.heap.size]? = some (.cells #[.slice Ap np cp, .slice Ax nx cx, .int .i64 l0, .slice A2 n2 c2, .int .i64 l1, .slice A3 n3 c3] 61 (0, 0))) := ⟨blk_new W _⟩
  have HC := Aside0.mk (fun (X : World) (hX : Below W.heap.size W X) => holds_calls X Ap np cp Ax nx cx l0 A2 n2 c2 l1 A3 n3 c3 ps xs ws0 ws1 (H.to hX))
  clear H
  have hu := Try.underlying32
  go_enter Try.func55, Try.ntmps55
  go_wp2_with fail
  generalize W.alloc (.cells #[.slice Ap np cp, .slice Ax nx cx, .int .i64 l0, .slice A2 n2 c2, .int .i64 l1, .slice A3 n3 c3] 61) = w1 at *
  go_loopw [3, 4] (fun v3 v4 wr => ∃ (k : Int) (Av : Option Addr) (nv : Nat) (L : List Int) (cv : Nat), 1 ≤ k ∧ k ≤ 18 ∧ (L.length : Int) < k ∧ v3 = .slice Av nv cv ∧ v4 = .int .i64 k ∧ Aside0 (Kd.R (Kd.int .i64) 3 wr (W.heap.size + 1) (fun j => W.heap.size + 1 ≤ j) (.slice Av nv cv) L) ∧ Aside0 (L = [] → allTo (fun i => 1 ≤ i → HP np n2 n3 l0 l1 ps ws0 ws1 i) k) ∧ Aside0 (wr.heap[W.heap.size]? = some (.cells #[.slice Ap np cp, .slice Ax nx cx, .int .i64 l0, .slice A2 n2 c2, .int .i64 l1, .slice A3 n3 c3] 61 (0, 0))) ∧ Aside0 (Below W.heap.size W wr)) (fun _ v _ => (18 - (intOf v)).toNat)
  case atStart => exact ⟨1, none, 0, [], 0, by omega, by omega, by simp, rfl, rfl, ⟨Kd.R_nil _ _ _ _ _⟩, ⟨fun _ i h0 h1 h2 => absurd h1 (by omega)⟩, HG, HB⟩
  case round =>
    clear HG HB
    obtain ⟨k, Av, nv, L, cv, hk0, hk1, hLk, rfl, rfl, HO, HA, HG, HB⟩ := hrel
    have hsz := blk_lt HG.out
    by_cases hlt : k ≤ 17
    · have hd : decide (k ≤ 17) = true := decide_eq_true hlt
      have hw1 : wrap64 (k + 1) = k + 1 := by unfold wrap64; omega
      have hg0 : wr.cell? ⟨W.heap.size, 0, none⟩ = some (.slice Ap np cp) := (blk_cell HG.out 0).trans rfl
      have hg1 : wr.cell? ⟨W.heap.size, 1, none⟩ = some (.slice Ax nx cx) := (blk_cell HG.out 1).trans rfl
      have hg2 : wr.cell? ⟨W.heap.size, 2, none⟩ = some (.int .i64 l0) := (blk_cell HG.out 2).trans rfl
      have hg3 : wr.cell? ⟨W.heap.size, 3, none⟩ = some (.slice A2 n2 c2) := (blk_cell HG.out 3).trans rfl
      have hg4 : wr.cell? ⟨W.heap.size, 4, none⟩ = some (.int .i64 l1) := (blk_cell HG.out 4).trans rfl
      have hg5 : wr.cell? ⟨W.heap.size, 5, none⟩ = some (.slice A3 n3 c3) := (blk_cell HG.out 5).trans rfl
      go_wp2_with fail
      refine (HC.out _ HB.out k hk0 hlt).mono ?_
      rintro e w3 ⟨⟨b, rfl, hb⟩, hbel⟩
      have HG4 := Aside0.mk (blk_below HG.out hbel)
      have HO4 := Aside0.mk (Kd.R_below HO.out hbel)
      have HB4 := Aside0.mk (HB.out.trans (hbel.mono HB.out.size))
      have hsz4 := blk_lt HG4.out
      clear HG HO HB hg0 hg1 hg2 hg3 hg4 hg5 hbel hsz
      cases b with
      | false =>
        have HA2 : Aside0 (L = [] → allTo (fun i => 1 ≤ i → HP np n2 n3 l0 l1 ps ws0 ws1 i) (k + 1)) := ⟨fun h => allTo_succ (HA.out h) (fun _ => hb rfl)⟩
        clear hb HA
        go_wp2
        go_roundw
        case rel => exact ⟨k + 1, Av, nv, L, cv, by omega, by omega, by omega, rfl, by go_num, HO4, HA2, HG4, HB4⟩
        case measure => simp [intOf]; omega
      | true =>
        clear hb HA
        go_wp2_with (at_builtin; refine Kd.R_append (Kd.int .i64) (w0 := w3) (W.heap.size + 1) rfl (.tmp 12) (.tmp 14) 32 3 (.int .i64 0) 8 rfl hu info_int rfl (by decide) (by omega) _ L k [.int .i64 k] (fun j => W.heap.size + 1 ≤ j) (fun _ => False) rfl rfl ?aP (fun _ h => h.elim) ?aF ?aO ?aB ?aS ?aL ?_)
        case aP => exact rfl
        case aF => exact fun k hk => by omega
        case aO => exact HO4.out
        case aB => exact Below.refl _ _
        case aS => omega
        case aL => omega
        intro v1 w6 ho hb hg hat
        obtain ⟨A6, n6, c6, rfl⟩ : ∃ A n c, v1 = .slice A n c := by
          obtain ⟨A, c, h⟩ := Kd.R_slice ho
          exact ⟨A, _, c, h⟩
        have HO6 := Aside0.mk ho
        have HG6 := Aside0.mk ((hb.block W.heap.size (by omega)).trans HG4.out)
        have HB6 := Aside0.mk (HB4.out.trans (hb.mono (by omega)))
        clear ho hb hg hat
        go_wp2
        go_roundw
        case rel => exact ⟨k + 1, A6, n6, L ++ [k], c6, by omega, by omega, by simp; omega, rfl, by go_num, HO6, ⟨fun h => absurd h (by simp)⟩, HG6, HB6⟩
        case measure => simp [intOf]; omega
    · have hd : decide (k ≤ 17) = false := decide_eq_false hlt
      have hk : k = 18 := by omega
      subst hk
      have HN := Aside0.mk (Kd.R_reads' HO.out).1
      go_wp2
      go_ret
      exact ⟨⟨Av, nv, cv, rfl, fun h => HA.out (List.length_eq_zero_iff.mp (by rw [← HN.out]; exact h))⟩, HB.out⟩
/-- What a configuration that layer 7 accepts is like. -/
structure Acc (np n2 n3 : Nat) (l0 l1 : Int) (ps : List S69) (ws0 ws1 : List S46) : Prop where
  parts : 1 ≤ np ∧ np ≤ 6
  cores : allTo (coreOk ps) np
  lens : (1 ≤ l0 ∧ l0 ≤ 64) ∧ (1 ≤ l1 ∧ l1 ≤ 64)
  wins : (n2 : Int) ≤ 16 ∧ (n3 : Int) ≤ 16
  mine : allTo (W14 ps np ws0 0) n2 ∧ allTo (W14 ps np ws1 1) n3
  fits : allTo (W15 l0 ws0) n2 ∧ allTo (W15 l1 ws1) n3
  apart : allTo (W16 ws0) n2 ∧ allTo (W16 ws1) n3
  each : allTo (winOk ps n2 n3 ws0 ws1) np
theorem acc_of {np n2 n3 : Nat} {l0 l1 : Int} {ps : List S69} {ws0 ws1 : List S46} (h : allTo (fun i => 1 ≤ i → HP np n2 n3 l0 l1 ps ws0 ws1 i) 18) : Acc np n2 n3 l0 l1 ps ws0 ws1 :=
  ⟨(h 1 (by decide) (by decide) (by decide)).c1 rfl, (h 2 (by decide) (by decide) (by decide)).c2 rfl, (h 12 (by decide) (by decide) (by decide)).c12 rfl, (h 13 (by decide) (by decide) (by decide)).c13 rfl, (h 14 (by decide) (by decide) (by decide)).c14 rfl, (h 15 (by decide) (by decide) (by decide)).c15 rfl, (h 16 (by decide) (by decide) (by decide)).c16 rfl, (h 17 (by decide) (by decide) (by decide)).c17 rfl⟩
set_option maxRecDepth 20000 in
set_option maxHeartbeats 8000000 in
theorem accepts_calls (W : World) (Ap : Option Addr) (np cp : Nat) (Ax : Option Addr) (nx cx : Nat) (l0 : Int) (A2 : Option Addr) (n2 c2 : Nat) (l1 : Int) (A3 : Option Addr) (n3 c3 : Nat) (ps : List S69) (xs : List S87) (ws0 ws1 : List S46) (H : CF W Ap np cp Ax nx cx l0 A2 n2 c2 l1 A3 n3 c3 ps xs ws0 ws1) :
    Calls Try.prog 40 #[.agg #[.slice Ap np cp, .slice Ax nx cx, .int .i64 l0, .slice A2 n2 c2, .int .i64 l1, .slice A3 n3 c3]] W fun e w' => Tells (fun b => b = true → Acc np n2 n3 l0 l1 ps ws0 ws1) W e w' := by
  have HB := Aside0.mk (below_alloc (Below.refl _ W) (.cells #[.slice Ap np cp, .slice Ax nx cx, .int .i64 l0, .slice A2 n2 c2, .int .i64 l1, .slice A3 n3 c3] 61))
  have HC := Aside0.mk (all_calls _ Ap np cp Ax nx cx l0 A2 n2 c2 l1 A3 n3 c3 ps xs ws0 ws1 (H.to HB.out))
  have HG : Aside0 ((W.alloc (.cells #[.slice Ap np cp, .slice Ax nx cx, .int .i64 l0, .slice A2 n2 c2, .int .i64 l1, .slice A3 n3 c3] 61)).heap[W.heap.size]? = some (.cells #[.slice Ap np cp, .slice Ax nx cx, .int .i64 l0, .slice A2 n2 c2, .int .i64 l1, .slice A3 n3 c3] 61 (0, 0))) := ⟨blk_new W _⟩
  have hg0 : (W.alloc (.cells #[.slice Ap np cp, .slice Ax nx cx, .int .i64 l0, .slice A2 n2 c2, .int .i64 l1, .slice A3 n3 c3] 61)).cell? ⟨W.heap.size, 0, none⟩ = some (.slice Ap np cp) := (blk_cell HG.out 0).trans rfl
  have hg1 : (W.alloc (.cells #[.slice Ap np cp, .slice Ax nx cx, .int .i64 l0, .slice A2 n2 c2, .int .i64 l1, .slice A3 n3 c3] 61)).cell? ⟨W.heap.size, 1, none⟩ = some (.slice Ax nx cx) := (blk_cell HG.out 1).trans rfl
  have hg2 : (W.alloc (.cells #[.slice Ap np cp, .slice Ax nx cx, .int .i64 l0, .slice A2 n2 c2, .int .i64 l1, .slice A3 n3 c3] 61)).cell? ⟨W.heap.size, 2, none⟩ = some (.int .i64 l0) := (blk_cell HG.out 2).trans rfl
  have hg3 : (W.alloc (.cells #[.slice Ap np cp, .slice Ax nx cx, .int .i64 l0, .slice A2 n2 c2, .int .i64 l1, .slice A3 n3 c3] 61)).cell? ⟨W.heap.size, 3, none⟩ = some (.slice A2 n2 c2) := (blk_cell HG.out 3).trans rfl
  have hg4 : (W.alloc (.cells #[.slice Ap np cp, .slice Ax nx cx, .int .i64 l0, .slice A2 n2 c2, .int .i64 l1, .slice A3 n3 c3] 61)).cell? ⟨W.heap.size, 4, none⟩ = some (.int .i64 l1) := (blk_cell HG.out 4).trans rfl
  have hg5 : (W.alloc (.cells #[.slice Ap np cp, .slice Ax nx cx, .int .i64 l0, .slice A2 n2 c2, .int .i64 l1, .slice A3 n3 c3] 61)).cell? ⟨W.heap.size, 5, none⟩ = some (.slice A3 n3 c3) := (blk_cell HG.out 5).trans rfl
  clear H HG
  go_enter Try.func40, Try.ntmps40
  go_wp2_with fail
  refine HC.out.mono ?_
  rintro e w3 ⟨⟨A, n, c, rfl, hn⟩, hb⟩
  have HB3 := Aside0.mk (HB.out.trans (hb.mono HB.out.size))
  have HN := Aside0.mk hn
  clear hn hb HB hg0 hg1 hg2 hg3 hg4 hg5 HC
  cases e0 : ((n : Int) == 0) with
  | true =>
    have HQ : Aside0 (n = 0) := ⟨by simpa using e0⟩
    go_wp2
    go_ret
    exact ⟨⟨true, rfl, fun _ => acc_of (HN.out HQ.out)⟩, HB3.out⟩
  | false =>
    go_wp2
    go_ret
    exact ⟨⟨false, rfl, fun h => by cases h⟩, HB3.out⟩
end Go.Proofs.Ytndmdlnmjamgkaa.Core
