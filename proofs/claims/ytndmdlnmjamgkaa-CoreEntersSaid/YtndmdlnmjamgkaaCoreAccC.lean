import Derived.Test.YtndmdlnmjamgkaaCoreAcc
import Derived.Test.YtndmdlnmjamgkaaLin
/- Package portholeref07 (seat of core): window, windows, chans, Holds, All, Accepts; what they tell, in plain words. Written by wip/coreacc.py. -/
namespace Go.Proofs.Ytndmdlnmjamgkaa.Core
open Go.RowKit Go.Proofs.YtndmdlnmjamgkaaW.PrintWords Go.Proofs.YtndmdlnmjamgkaaW.PrintLast Go.Proofs.YtndmdlnmjamgkaaW.PrintMore Go.Proofs.Ytndmdlnmjamgkaa.PF Go.Proofs.Ytndmdlnmjamgkaa.Frame Go.Proofs.Ytndmdlnmjamgkaa.Box Go.Proofs.Ytndmdlnmjamgkaa.Lin
set_option linter.unusedSimpArgs false
set_option linter.unusedVariables false
set_option maxRecDepth 20000 in
set_option maxHeartbeats 8000000 in
theorem chans5_calls (W : World) (Ap : Option Addr) (np cp : Nat) (Ax : Option Addr) (nx cx : Nat) (l0 : Int) (A2 : Option Addr) (n2 c2 : Nat) (l1 : Int) (A3 : Option Addr) (n3 c3 : Nat) (xs : List S87) (hx : Kd.C k87 W Ax nx xs) (hm : nx ≤ 1000000) :
    Calls Try.prog 60 #[.agg #[.slice Ap np cp, .slice Ax nx cx, .int .i64 l0, .slice A2 n2 c2, .int .i64 l1, .slice A3 n3 c3], .int .i64 5] W fun e w' => Tells (fun _ => True) W e w' := by
  have HB := Aside0.mk (below_alloc (Below.refl _ W) (.cells #[.slice Ap np cp, .slice Ax nx cx, .int .i64 l0, .slice A2 n2 c2, .int .i64 l1, .slice A3 n3 c3] 61))
  have HX := Aside0.mk hx
  clear hx
  go_enter Try.func60, Try.ntmps60
  go_wp2_with fail
  go_loopw [5] (fun v wr => ∃ x : Int, 0 ≤ x ∧ x ≤ nx ∧ v = .int .i64 x ∧ Aside0 (wr.heap[W.heap.size]? = some (.cells #[.slice Ap np cp, .slice Ax nx cx, .int .i64 l0, .slice A2 n2 c2, .int .i64 l1, .slice A3 n3 c3] 61 (0, 0))) ∧ Aside0 (Below W.heap.size W wr)) (fun v _ => (nx - (intOf v)).toNat)
  case atStart => exact ⟨0, by omega, by omega, rfl, ⟨blk_new W _⟩, HB⟩
  case round =>
    clear HB
    obtain ⟨x, hx0, hx1, rfl, HG, HB⟩ := hrel
    have hg0 : wr.cell? ⟨W.heap.size, 0, none⟩ = some (.slice Ap np cp) := (blk_cell HG.out 0).trans rfl
    have hg1 : wr.cell? ⟨W.heap.size, 1, none⟩ = some (.slice Ax nx cx) := (blk_cell HG.out 1).trans rfl
    have hg2 : wr.cell? ⟨W.heap.size, 2, none⟩ = some (.int .i64 l0) := (blk_cell HG.out 2).trans rfl
    have hg3 : wr.cell? ⟨W.heap.size, 3, none⟩ = some (.slice A2 n2 c2) := (blk_cell HG.out 3).trans rfl
    have hg4 : wr.cell? ⟨W.heap.size, 4, none⟩ = some (.int .i64 l1) := (blk_cell HG.out 4).trans rfl
    have hg5 : wr.cell? ⟨W.heap.size, 5, none⟩ = some (.slice A3 n3 c3) := (blk_cell HG.out 5).trans rfl
    by_cases hlt : x < (nx : Int)
    · have hd : decide (x < (nx : Int)) = true := decide_eq_true hlt
      have hw1 : wrap64 (x + 1) = x + 1 := by unfold wrap64; omega
      obtain ⟨ax, rfl, d0, d1, d2, d3, d4, d5, d6⟩ := at_T87 (Kd.C_below HX.out HB.out) x hx0 hlt
      generalize (rd_T87 xs x).f0 = a0 at *
      generalize (rd_T87 xs x).f1 = a1 at *
      generalize (rd_T87 xs x).f2 = a2 at *
      generalize (rd_T87 xs x).f3 = a3 at *
      generalize (rd_T87 xs x).f4 = a4 at *
      generalize (rd_T87 xs x).f5 = a5 at *
      generalize (rd_T87 xs x).f6 = a6 at *
      have hbk := below_alloc (Below.refl _ wr) (.cells #[.int .i64 a0, .int .i64 a1, .int .i64 a2, .int .i64 a3, .int .i64 a4, .int .i64 a5, .int .u32 a6] 87)
      have HB1 := Aside0.mk (HB.out.trans (hbk.mono HB.out.size))
      have HG1 := Aside0.mk (blk_below HG.out hbk)
      clear hbk HB HG
      cases ht0 : (a0 != 1) with
      | true =>
        cases ht1 : (a0 != 2) with
        | true =>
          go_wp2
          go_ret
          exact ⟨⟨true, rfl, trivial⟩, HB1.out⟩
        | false =>
          go_wp2
          go_roundw
          case rel => exact ⟨x + 1, by omega, by omega, by go_num, HG1, HB1⟩
          case measure => simp [intOf]; omega
      | false =>
        go_wp2
        go_roundw
        case rel => exact ⟨x + 1, by omega, by omega, by go_num, HG1, HB1⟩
        case measure => simp [intOf]; omega
    · have hd : decide (x < (nx : Int)) = false := decide_eq_false hlt
      go_wp2
      go_ret
      exact ⟨⟨false, rfl, trivial⟩, HB.out⟩
set_option maxRecDepth 20000 in
set_option maxHeartbeats 8000000 in
theorem chans6_calls (W : World) (Ap : Option Addr) (np cp : Nat) (Ax : Option Addr) (nx cx : Nat) (l0 : Int) (A2 : Option Addr) (n2 c2 : Nat) (l1 : Int) (A3 : Option Addr) (n3 c3 : Nat) (xs : List S87) (hx : Kd.C k87 W Ax nx xs) (hm : nx ≤ 1000000) :
    Calls Try.prog 60 #[.agg #[.slice Ap np cp, .slice Ax nx cx, .int .i64 l0, .slice A2 n2 c2, .int .i64 l1, .slice A3 n3 c3], .int .i64 6] W fun e w' => Tells (fun _ => True) W e w' := by
  have HB := Aside0.mk (below_alloc (Below.refl _ W) (.cells #[.slice Ap np cp, .slice Ax nx cx, .int .i64 l0, .slice A2 n2 c2, .int .i64 l1, .slice A3 n3 c3] 61))
  have HX := Aside0.mk hx
  clear hx
  go_enter Try.func60, Try.ntmps60
  go_wp2_with fail
  go_loopw [5] (fun v wr => ∃ x : Int, 0 ≤ x ∧ x ≤ nx ∧ v = .int .i64 x ∧ Aside0 (wr.heap[W.heap.size]? = some (.cells #[.slice Ap np cp, .slice Ax nx cx, .int .i64 l0, .slice A2 n2 c2, .int .i64 l1, .slice A3 n3 c3] 61 (0, 0))) ∧ Aside0 (Below W.heap.size W wr)) (fun v _ => (nx - (intOf v)).toNat)
  case atStart => exact ⟨0, by omega, by omega, rfl, ⟨blk_new W _⟩, HB⟩
  case round =>
    clear HB
    obtain ⟨x, hx0, hx1, rfl, HG, HB⟩ := hrel
    have hg0 : wr.cell? ⟨W.heap.size, 0, none⟩ = some (.slice Ap np cp) := (blk_cell HG.out 0).trans rfl
    have hg1 : wr.cell? ⟨W.heap.size, 1, none⟩ = some (.slice Ax nx cx) := (blk_cell HG.out 1).trans rfl
    have hg2 : wr.cell? ⟨W.heap.size, 2, none⟩ = some (.int .i64 l0) := (blk_cell HG.out 2).trans rfl
    have hg3 : wr.cell? ⟨W.heap.size, 3, none⟩ = some (.slice A2 n2 c2) := (blk_cell HG.out 3).trans rfl
    have hg4 : wr.cell? ⟨W.heap.size, 4, none⟩ = some (.int .i64 l1) := (blk_cell HG.out 4).trans rfl
    have hg5 : wr.cell? ⟨W.heap.size, 5, none⟩ = some (.slice A3 n3 c3) := (blk_cell HG.out 5).trans rfl
    by_cases hlt : x < (nx : Int)
    · have hd : decide (x < (nx : Int)) = true := decide_eq_true hlt
      have hw1 : wrap64 (x + 1) = x + 1 := by unfold wrap64; omega
      obtain ⟨ax, rfl, d0, d1, d2, d3, d4, d5, d6⟩ := at_T87 (Kd.C_below HX.out HB.out) x hx0 hlt
      generalize (rd_T87 xs x).f0 = a0 at *
      generalize (rd_T87 xs x).f1 = a1 at *
      generalize (rd_T87 xs x).f2 = a2 at *
      generalize (rd_T87 xs x).f3 = a3 at *
      generalize (rd_T87 xs x).f4 = a4 at *
      generalize (rd_T87 xs x).f5 = a5 at *
      generalize (rd_T87 xs x).f6 = a6 at *
      have hbk := below_alloc (Below.refl _ wr) (.cells #[.int .i64 a0, .int .i64 a1, .int .i64 a2, .int .i64 a3, .int .i64 a4, .int .i64 a5, .int .u32 a6] 87)
      have HB1 := Aside0.mk (HB.out.trans (hbk.mono HB.out.size))
      have HG1 := Aside0.mk (blk_below HG.out hbk)
      clear hbk HB HG
      have HK1 : Aside0 ((wr.alloc (.cells #[.int .i64 a0, .int .i64 a1, .int .i64 a2, .int .i64 a3, .int .i64 a4, .int .i64 a5, .int .u32 a6] 87)).heap[wr.heap.size]? = some (.cells #[.int .i64 a0, .int .i64 a1, .int .i64 a2, .int .i64 a3, .int .i64 a4, .int .i64 a5, .int .u32 a6] 87 (0, 0))) := ⟨blk_new wr _⟩
      have hj0 : (wr.alloc (.cells #[.int .i64 a0, .int .i64 a1, .int .i64 a2, .int .i64 a3, .int .i64 a4, .int .i64 a5, .int .u32 a6] 87)).cell? ⟨W.heap.size, 0, none⟩ = some (.slice Ap np cp) := (blk_cell HG1.out 0).trans rfl
      have hj1 : (wr.alloc (.cells #[.int .i64 a0, .int .i64 a1, .int .i64 a2, .int .i64 a3, .int .i64 a4, .int .i64 a5, .int .u32 a6] 87)).cell? ⟨W.heap.size, 1, none⟩ = some (.slice (some ax) nx cx) := (blk_cell HG1.out 1).trans rfl
      have hj2 : (wr.alloc (.cells #[.int .i64 a0, .int .i64 a1, .int .i64 a2, .int .i64 a3, .int .i64 a4, .int .i64 a5, .int .u32 a6] 87)).cell? ⟨W.heap.size, 2, none⟩ = some (.int .i64 l0) := (blk_cell HG1.out 2).trans rfl
      have hj3 : (wr.alloc (.cells #[.int .i64 a0, .int .i64 a1, .int .i64 a2, .int .i64 a3, .int .i64 a4, .int .i64 a5, .int .u32 a6] 87)).cell? ⟨W.heap.size, 3, none⟩ = some (.slice A2 n2 c2) := (blk_cell HG1.out 3).trans rfl
      have hj4 : (wr.alloc (.cells #[.int .i64 a0, .int .i64 a1, .int .i64 a2, .int .i64 a3, .int .i64 a4, .int .i64 a5, .int .u32 a6] 87)).cell? ⟨W.heap.size, 4, none⟩ = some (.int .i64 l1) := (blk_cell HG1.out 4).trans rfl
      have hj5 : (wr.alloc (.cells #[.int .i64 a0, .int .i64 a1, .int .i64 a2, .int .i64 a3, .int .i64 a4, .int .i64 a5, .int .u32 a6] 87)).cell? ⟨W.heap.size, 5, none⟩ = some (.slice A3 n3 c3) := (blk_cell HG1.out 5).trans rfl
      go_wp2_with fail
      refine (part_calls _ _ _ _ _ _ _ _ _ _ _ _ _ _ _ a1).mono ?_
      rintro e w3 ⟨rfl, hb⟩
      have HB3 := Aside0.mk (HB1.out.trans (hb.mono HB1.out.size))
      have HG3 := Aside0.mk (blk_below HG1.out hb)
      have HK3 := Aside0.mk (blk_below HK1.out hb)
      clear hb HB1 HG1 HK1 hg0 hg1 hg2 hg3 hg4 hg5 hj0 hj1 hj2 hj3 hj4 hj5 d0 d1 d2 d3 d4 d5 d6
      have hg0 : w3.cell? ⟨W.heap.size, 0, none⟩ = some (.slice Ap np cp) := (blk_cell HG3.out 0).trans rfl
      have hg1 : w3.cell? ⟨W.heap.size, 1, none⟩ = some (.slice (some ax) nx cx) := (blk_cell HG3.out 1).trans rfl
      have hg2 : w3.cell? ⟨W.heap.size, 2, none⟩ = some (.int .i64 l0) := (blk_cell HG3.out 2).trans rfl
      have hg3 : w3.cell? ⟨W.heap.size, 3, none⟩ = some (.slice A2 n2 c2) := (blk_cell HG3.out 3).trans rfl
      have hg4 : w3.cell? ⟨W.heap.size, 4, none⟩ = some (.int .i64 l1) := (blk_cell HG3.out 4).trans rfl
      have hg5 : w3.cell? ⟨W.heap.size, 5, none⟩ = some (.slice A3 n3 c3) := (blk_cell HG3.out 5).trans rfl
      have hk2 : w3.cell? ⟨wr.heap.size, 2, none⟩ = some (.int .i64 a2) := (blk_cell HK3.out 2).trans rfl
      generalize decide (0 ≤ a1 ∧ a1 < (np : Int)) = b1
      cases b1 with
      | false =>
        go_wp2
        go_ret
        exact ⟨⟨true, rfl, trivial⟩, HB3.out⟩
      | true =>
        go_wp2_with fail
        refine (part_calls _ _ _ _ _ _ _ _ _ _ _ _ _ _ _ a2).mono ?_
        rintro e w4 ⟨rfl, hb⟩
        have HB4 := Aside0.mk (HB3.out.trans (hb.mono HB3.out.size))
        have HG4 := Aside0.mk (blk_below HG3.out hb)
        clear hb HB3 HG3 HK3 hg0 hg1 hg2 hg3 hg4 hg5 hk2
        generalize decide (0 ≤ a2 ∧ a2 < (np : Int)) = b2
        cases b2 with
        | false =>
          go_wp2
          go_ret
          exact ⟨⟨true, rfl, trivial⟩, HB4.out⟩
        | true =>
          go_wp2
          go_roundw
          case rel => exact ⟨x + 1, by omega, by omega, by go_num, HG4, HB4⟩
          case measure => simp [intOf]; omega
    · have hd : decide (x < (nx : Int)) = false := decide_eq_false hlt
      go_wp2
      go_ret
      exact ⟨⟨false, rfl, trivial⟩, HB.out⟩
set_option maxRecDepth 20000 in
set_option maxHeartbeats 8000000 in
theorem chans7_calls (W : World) (Ap : Option Addr) (np cp : Nat) (Ax : Option Addr) (nx cx : Nat) (l0 : Int) (A2 : Option Addr) (n2 c2 : Nat) (l1 : Int) (A3 : Option Addr) (n3 c3 : Nat) (xs : List S87) (hx : Kd.C k87 W Ax nx xs) (hm : nx ≤ 1000000) :
    Calls Try.prog 60 #[.agg #[.slice Ap np cp, .slice Ax nx cx, .int .i64 l0, .slice A2 n2 c2, .int .i64 l1, .slice A3 n3 c3], .int .i64 7] W fun e w' => Tells (fun _ => True) W e w' := by
  have HB := Aside0.mk (below_alloc (Below.refl _ W) (.cells #[.slice Ap np cp, .slice Ax nx cx, .int .i64 l0, .slice A2 n2 c2, .int .i64 l1, .slice A3 n3 c3] 61))
  have HX := Aside0.mk hx
  clear hx
  go_enter Try.func60, Try.ntmps60
  go_wp2_with fail
  go_loopw [5] (fun v wr => ∃ x : Int, 0 ≤ x ∧ x ≤ nx ∧ v = .int .i64 x ∧ Aside0 (wr.heap[W.heap.size]? = some (.cells #[.slice Ap np cp, .slice Ax nx cx, .int .i64 l0, .slice A2 n2 c2, .int .i64 l1, .slice A3 n3 c3] 61 (0, 0))) ∧ Aside0 (Below W.heap.size W wr)) (fun v _ => (nx - (intOf v)).toNat)
  case atStart => exact ⟨0, by omega, by omega, rfl, ⟨blk_new W _⟩, HB⟩
  case round =>
    clear HB
    obtain ⟨x, hx0, hx1, rfl, HG, HB⟩ := hrel
    have hg0 : wr.cell? ⟨W.heap.size, 0, none⟩ = some (.slice Ap np cp) := (blk_cell HG.out 0).trans rfl
    have hg1 : wr.cell? ⟨W.heap.size, 1, none⟩ = some (.slice Ax nx cx) := (blk_cell HG.out 1).trans rfl
    have hg2 : wr.cell? ⟨W.heap.size, 2, none⟩ = some (.int .i64 l0) := (blk_cell HG.out 2).trans rfl
    have hg3 : wr.cell? ⟨W.heap.size, 3, none⟩ = some (.slice A2 n2 c2) := (blk_cell HG.out 3).trans rfl
    have hg4 : wr.cell? ⟨W.heap.size, 4, none⟩ = some (.int .i64 l1) := (blk_cell HG.out 4).trans rfl
    have hg5 : wr.cell? ⟨W.heap.size, 5, none⟩ = some (.slice A3 n3 c3) := (blk_cell HG.out 5).trans rfl
    by_cases hlt : x < (nx : Int)
    · have hd : decide (x < (nx : Int)) = true := decide_eq_true hlt
      have hw1 : wrap64 (x + 1) = x + 1 := by unfold wrap64; omega
      obtain ⟨ax, rfl, d0, d1, d2, d3, d4, d5, d6⟩ := at_T87 (Kd.C_below HX.out HB.out) x hx0 hlt
      generalize (rd_T87 xs x).f0 = a0 at *
      generalize (rd_T87 xs x).f1 = a1 at *
      generalize (rd_T87 xs x).f2 = a2 at *
      generalize (rd_T87 xs x).f3 = a3 at *
      generalize (rd_T87 xs x).f4 = a4 at *
      generalize (rd_T87 xs x).f5 = a5 at *
      generalize (rd_T87 xs x).f6 = a6 at *
      have hbk := below_alloc (Below.refl _ wr) (.cells #[.int .i64 a0, .int .i64 a1, .int .i64 a2, .int .i64 a3, .int .i64 a4, .int .i64 a5, .int .u32 a6] 87)
      have HB1 := Aside0.mk (HB.out.trans (hbk.mono HB.out.size))
      have HG1 := Aside0.mk (blk_below HG.out hbk)
      clear hbk HB HG
      cases ht0 : (a1 == a2) with
      | true =>
        go_wp2
        go_ret
        exact ⟨⟨true, rfl, trivial⟩, HB1.out⟩
      | false =>
        go_wp2
        go_roundw
        case rel => exact ⟨x + 1, by omega, by omega, by go_num, HG1, HB1⟩
        case measure => simp [intOf]; omega
    · have hd : decide (x < (nx : Int)) = false := decide_eq_false hlt
      go_wp2
      go_ret
      exact ⟨⟨false, rfl, trivial⟩, HB.out⟩
set_option maxRecDepth 20000 in
set_option maxHeartbeats 8000000 in
theorem chans8_calls (W : World) (Ap : Option Addr) (np cp : Nat) (Ax : Option Addr) (nx cx : Nat) (l0 : Int) (A2 : Option Addr) (n2 c2 : Nat) (l1 : Int) (A3 : Option Addr) (n3 c3 : Nat) (xs : List S87) (hx : Kd.C k87 W Ax nx xs) (hm : nx ≤ 1000000) :
    Calls Try.prog 60 #[.agg #[.slice Ap np cp, .slice Ax nx cx, .int .i64 l0, .slice A2 n2 c2, .int .i64 l1, .slice A3 n3 c3], .int .i64 8] W fun e w' => Tells (fun _ => True) W e w' := by
  have HB := Aside0.mk (below_alloc (Below.refl _ W) (.cells #[.slice Ap np cp, .slice Ax nx cx, .int .i64 l0, .slice A2 n2 c2, .int .i64 l1, .slice A3 n3 c3] 61))
  have HX := Aside0.mk hx
  clear hx
  go_enter Try.func60, Try.ntmps60
  go_wp2_with fail
  go_loopw [5] (fun v wr => ∃ x : Int, 0 ≤ x ∧ x ≤ nx ∧ v = .int .i64 x ∧ Aside0 (wr.heap[W.heap.size]? = some (.cells #[.slice Ap np cp, .slice Ax nx cx, .int .i64 l0, .slice A2 n2 c2, .int .i64 l1, .slice A3 n3 c3] 61 (0, 0))) ∧ Aside0 (Below W.heap.size W wr)) (fun v _ => (nx - (intOf v)).toNat)
  case atStart => exact ⟨0, by omega, by omega, rfl, ⟨blk_new W _⟩, HB⟩
  case round =>
    clear HB
    obtain ⟨x, hx0, hx1, rfl, HG, HB⟩ := hrel
    have hg0 : wr.cell? ⟨W.heap.size, 0, none⟩ = some (.slice Ap np cp) := (blk_cell HG.out 0).trans rfl
    have hg1 : wr.cell? ⟨W.heap.size, 1, none⟩ = some (.slice Ax nx cx) := (blk_cell HG.out 1).trans rfl
    have hg2 : wr.cell? ⟨W.heap.size, 2, none⟩ = some (.int .i64 l0) := (blk_cell HG.out 2).trans rfl
    have hg3 : wr.cell? ⟨W.heap.size, 3, none⟩ = some (.slice A2 n2 c2) := (blk_cell HG.out 3).trans rfl
    have hg4 : wr.cell? ⟨W.heap.size, 4, none⟩ = some (.int .i64 l1) := (blk_cell HG.out 4).trans rfl
    have hg5 : wr.cell? ⟨W.heap.size, 5, none⟩ = some (.slice A3 n3 c3) := (blk_cell HG.out 5).trans rfl
    by_cases hlt : x < (nx : Int)
    · have hd : decide (x < (nx : Int)) = true := decide_eq_true hlt
      have hw1 : wrap64 (x + 1) = x + 1 := by unfold wrap64; omega
      obtain ⟨ax, rfl, d0, d1, d2, d3, d4, d5, d6⟩ := at_T87 (Kd.C_below HX.out HB.out) x hx0 hlt
      generalize (rd_T87 xs x).f0 = a0 at *
      generalize (rd_T87 xs x).f1 = a1 at *
      generalize (rd_T87 xs x).f2 = a2 at *
      generalize (rd_T87 xs x).f3 = a3 at *
      generalize (rd_T87 xs x).f4 = a4 at *
      generalize (rd_T87 xs x).f5 = a5 at *
      generalize (rd_T87 xs x).f6 = a6 at *
      have hbk := below_alloc (Below.refl _ wr) (.cells #[.int .i64 a0, .int .i64 a1, .int .i64 a2, .int .i64 a3, .int .i64 a4, .int .i64 a5, .int .u32 a6] 87)
      have HB1 := Aside0.mk (HB.out.trans (hbk.mono HB.out.size))
      have HG1 := Aside0.mk (blk_below HG.out hbk)
      clear hbk HB HG
      cases ht0 : decide (a3 < 1) with
      | true =>
        go_wp2
        go_ret
        exact ⟨⟨true, rfl, trivial⟩, HB1.out⟩
      | false =>
        cases ht1 : decide (16 < a3) with
        | true =>
          go_wp2
          go_ret
          exact ⟨⟨true, rfl, trivial⟩, HB1.out⟩
        | false =>
          go_wp2
          go_roundw
          case rel => exact ⟨x + 1, by omega, by omega, by go_num, HG1, HB1⟩
          case measure => simp [intOf]; omega
    · have hd : decide (x < (nx : Int)) = false := decide_eq_false hlt
      go_wp2
      go_ret
      exact ⟨⟨false, rfl, trivial⟩, HB.out⟩
set_option maxRecDepth 20000 in
set_option maxHeartbeats 8000000 in
theorem chans9_calls (W : World) (Ap : Option Addr) (np cp : Nat) (Ax : Option Addr) (nx cx : Nat) (l0 : Int) (A2 : Option Addr) (n2 c2 : Nat) (l1 : Int) (A3 : Option Addr) (n3 c3 : Nat) (xs : List S87) (hx : Kd.C k87 W Ax nx xs) (hm : nx ≤ 1000000) :
    Calls Try.prog 60 #[.agg #[.slice Ap np cp, .slice Ax nx cx, .int .i64 l0, .slice A2 n2 c2, .int .i64 l1, .slice A3 n3 c3], .int .i64 9] W fun e w' => Tells (fun _ => True) W e w' := by
  have HB := Aside0.mk (below_alloc (Below.refl _ W) (.cells #[.slice Ap np cp, .slice Ax nx cx, .int .i64 l0, .slice A2 n2 c2, .int .i64 l1, .slice A3 n3 c3] 61))
  have HX := Aside0.mk hx
  clear hx
  go_enter Try.func60, Try.ntmps60
  go_wp2_with fail
  go_loopw [5] (fun v wr => ∃ x : Int, 0 ≤ x ∧ x ≤ nx ∧ v = .int .i64 x ∧ Aside0 (wr.heap[W.heap.size]? = some (.cells #[.slice Ap np cp, .slice Ax nx cx, .int .i64 l0, .slice A2 n2 c2, .int .i64 l1, .slice A3 n3 c3] 61 (0, 0))) ∧ Aside0 (Below W.heap.size W wr)) (fun v _ => (nx - (intOf v)).toNat)
  case atStart => exact ⟨0, by omega, by omega, rfl, ⟨blk_new W _⟩, HB⟩
  case round =>
    clear HB
    obtain ⟨x, hx0, hx1, rfl, HG, HB⟩ := hrel
    have hg0 : wr.cell? ⟨W.heap.size, 0, none⟩ = some (.slice Ap np cp) := (blk_cell HG.out 0).trans rfl
    have hg1 : wr.cell? ⟨W.heap.size, 1, none⟩ = some (.slice Ax nx cx) := (blk_cell HG.out 1).trans rfl
    have hg2 : wr.cell? ⟨W.heap.size, 2, none⟩ = some (.int .i64 l0) := (blk_cell HG.out 2).trans rfl
    have hg3 : wr.cell? ⟨W.heap.size, 3, none⟩ = some (.slice A2 n2 c2) := (blk_cell HG.out 3).trans rfl
    have hg4 : wr.cell? ⟨W.heap.size, 4, none⟩ = some (.int .i64 l1) := (blk_cell HG.out 4).trans rfl
    have hg5 : wr.cell? ⟨W.heap.size, 5, none⟩ = some (.slice A3 n3 c3) := (blk_cell HG.out 5).trans rfl
    by_cases hlt : x < (nx : Int)
    · have hd : decide (x < (nx : Int)) = true := decide_eq_true hlt
      have hw1 : wrap64 (x + 1) = x + 1 := by unfold wrap64; omega
      obtain ⟨ax, rfl, d0, d1, d2, d3, d4, d5, d6⟩ := at_T87 (Kd.C_below HX.out HB.out) x hx0 hlt
      generalize (rd_T87 xs x).f0 = a0 at *
      generalize (rd_T87 xs x).f1 = a1 at *
      generalize (rd_T87 xs x).f2 = a2 at *
      generalize (rd_T87 xs x).f3 = a3 at *
      generalize (rd_T87 xs x).f4 = a4 at *
      generalize (rd_T87 xs x).f5 = a5 at *
      generalize (rd_T87 xs x).f6 = a6 at *
      have hbk := below_alloc (Below.refl _ wr) (.cells #[.int .i64 a0, .int .i64 a1, .int .i64 a2, .int .i64 a3, .int .i64 a4, .int .i64 a5, .int .u32 a6] 87)
      have HB1 := Aside0.mk (HB.out.trans (hbk.mono HB.out.size))
      have HG1 := Aside0.mk (blk_below HG.out hbk)
      clear hbk HB HG
      cases ht0 : (a0 == 1) with
      | true =>
        cases ht1 : (a4 != 0) with
        | true =>
          go_wp2
          go_ret
          exact ⟨⟨true, rfl, trivial⟩, HB1.out⟩
        | false =>
          cases ht2 : (a0 == 2) with
          | true =>
            cases ht3 : (a4 != 1) with
            | true =>
              cases ht4 : (a4 != 2) with
              | true =>
                cases ht5 : (a4 != 4) with
                | true =>
                  cases ht6 : (a4 != 8) with
                  | true =>
                    go_wp2
                    go_ret
                    exact ⟨⟨true, rfl, trivial⟩, HB1.out⟩
                  | false =>
                    go_wp2
                    go_roundw
                    case rel => exact ⟨x + 1, by omega, by omega, by go_num, HG1, HB1⟩
                    case measure => simp [intOf]; omega
                | false =>
                  go_wp2
                  go_roundw
                  case rel => exact ⟨x + 1, by omega, by omega, by go_num, HG1, HB1⟩
                  case measure => simp [intOf]; omega
              | false =>
                go_wp2
                go_roundw
                case rel => exact ⟨x + 1, by omega, by omega, by go_num, HG1, HB1⟩
                case measure => simp [intOf]; omega
            | false =>
              go_wp2
              go_roundw
              case rel => exact ⟨x + 1, by omega, by omega, by go_num, HG1, HB1⟩
              case measure => simp [intOf]; omega
          | false =>
            go_wp2
            go_roundw
            case rel => exact ⟨x + 1, by omega, by omega, by go_num, HG1, HB1⟩
            case measure => simp [intOf]; omega
      | false =>
        cases ht1 : (a0 == 2) with
        | true =>
          cases ht2 : (a4 != 1) with
          | true =>
            cases ht3 : (a4 != 2) with
            | true =>
              cases ht4 : (a4 != 4) with
              | true =>
                cases ht5 : (a4 != 8) with
                | true =>
                  go_wp2
                  go_ret
                  exact ⟨⟨true, rfl, trivial⟩, HB1.out⟩
                | false =>
                  go_wp2
                  go_roundw
                  case rel => exact ⟨x + 1, by omega, by omega, by go_num, HG1, HB1⟩
                  case measure => simp [intOf]; omega
              | false =>
                go_wp2
                go_roundw
                case rel => exact ⟨x + 1, by omega, by omega, by go_num, HG1, HB1⟩
                case measure => simp [intOf]; omega
            | false =>
              go_wp2
              go_roundw
              case rel => exact ⟨x + 1, by omega, by omega, by go_num, HG1, HB1⟩
              case measure => simp [intOf]; omega
          | false =>
            go_wp2
            go_roundw
            case rel => exact ⟨x + 1, by omega, by omega, by go_num, HG1, HB1⟩
            case measure => simp [intOf]; omega
        | false =>
          go_wp2
          go_roundw
          case rel => exact ⟨x + 1, by omega, by omega, by go_num, HG1, HB1⟩
          case measure => simp [intOf]; omega
    · have hd : decide (x < (nx : Int)) = false := decide_eq_false hlt
      go_wp2
      go_ret
      exact ⟨⟨false, rfl, trivial⟩, HB.out⟩
set_option maxRecDepth 20000 in
set_option maxHeartbeats 8000000 in
theorem chans10_calls (W : World) (Ap : Option Addr) (np cp : Nat) (Ax : Option Addr) (nx cx : Nat) (l0 : Int) (A2 : Option Addr) (n2 c2 : Nat) (l1 : Int) (A3 : Option Addr) (n3 c3 : Nat) (xs : List S87) (hx : Kd.C k87 W Ax nx xs) (hm : nx ≤ 1000000) :
    Calls Try.prog 60 #[.agg #[.slice Ap np cp, .slice Ax nx cx, .int .i64 l0, .slice A2 n2 c2, .int .i64 l1, .slice A3 n3 c3], .int .i64 10] W fun e w' => Tells (fun _ => True) W e w' := by
  have HB := Aside0.mk (below_alloc (Below.refl _ W) (.cells #[.slice Ap np cp, .slice Ax nx cx, .int .i64 l0, .slice A2 n2 c2, .int .i64 l1, .slice A3 n3 c3] 61))
  have HX := Aside0.mk hx
  clear hx
  go_enter Try.func60, Try.ntmps60
  go_wp2_with fail
  go_loopw [5] (fun v wr => ∃ x : Int, 0 ≤ x ∧ x ≤ nx ∧ v = .int .i64 x ∧ Aside0 (wr.heap[W.heap.size]? = some (.cells #[.slice Ap np cp, .slice Ax nx cx, .int .i64 l0, .slice A2 n2 c2, .int .i64 l1, .slice A3 n3 c3] 61 (0, 0))) ∧ Aside0 (Below W.heap.size W wr)) (fun v _ => (nx - (intOf v)).toNat)
  case atStart => exact ⟨0, by omega, by omega, rfl, ⟨blk_new W _⟩, HB⟩
  case round =>
    clear HB
    obtain ⟨x, hx0, hx1, rfl, HG, HB⟩ := hrel
    have hg0 : wr.cell? ⟨W.heap.size, 0, none⟩ = some (.slice Ap np cp) := (blk_cell HG.out 0).trans rfl
    have hg1 : wr.cell? ⟨W.heap.size, 1, none⟩ = some (.slice Ax nx cx) := (blk_cell HG.out 1).trans rfl
    have hg2 : wr.cell? ⟨W.heap.size, 2, none⟩ = some (.int .i64 l0) := (blk_cell HG.out 2).trans rfl
    have hg3 : wr.cell? ⟨W.heap.size, 3, none⟩ = some (.slice A2 n2 c2) := (blk_cell HG.out 3).trans rfl
    have hg4 : wr.cell? ⟨W.heap.size, 4, none⟩ = some (.int .i64 l1) := (blk_cell HG.out 4).trans rfl
    have hg5 : wr.cell? ⟨W.heap.size, 5, none⟩ = some (.slice A3 n3 c3) := (blk_cell HG.out 5).trans rfl
    by_cases hlt : x < (nx : Int)
    · have hd : decide (x < (nx : Int)) = true := decide_eq_true hlt
      have hw1 : wrap64 (x + 1) = x + 1 := by unfold wrap64; omega
      obtain ⟨ax, rfl, d0, d1, d2, d3, d4, d5, d6⟩ := at_T87 (Kd.C_below HX.out HB.out) x hx0 hlt
      generalize (rd_T87 xs x).f0 = a0 at *
      generalize (rd_T87 xs x).f1 = a1 at *
      generalize (rd_T87 xs x).f2 = a2 at *
      generalize (rd_T87 xs x).f3 = a3 at *
      generalize (rd_T87 xs x).f4 = a4 at *
      generalize (rd_T87 xs x).f5 = a5 at *
      generalize (rd_T87 xs x).f6 = a6 at *
      have hbk := below_alloc (Below.refl _ wr) (.cells #[.int .i64 a0, .int .i64 a1, .int .i64 a2, .int .i64 a3, .int .i64 a4, .int .i64 a5, .int .u32 a6] 87)
      have HB1 := Aside0.mk (HB.out.trans (hbk.mono HB.out.size))
      have HG1 := Aside0.mk (blk_below HG.out hbk)
      clear hbk HB HG
      cases ht0 : (a0 == 1) with
      | true =>
        cases ht1 : decide (a5 < 0) with
        | true =>
          go_wp2
          go_ret
          exact ⟨⟨true, rfl, trivial⟩, HB1.out⟩
        | false =>
          cases ht2 : decide (1048576 < a5) with
          | true =>
            go_wp2
            go_ret
            exact ⟨⟨true, rfl, trivial⟩, HB1.out⟩
          | false =>
            cases ht3 : (a0 == 2) with
            | true =>
              cases ht4 : (a5 != 0) with
              | true =>
                go_wp2
                go_ret
                exact ⟨⟨true, rfl, trivial⟩, HB1.out⟩
              | false =>
                go_wp2
                go_roundw
                case rel => exact ⟨x + 1, by omega, by omega, by go_num, HG1, HB1⟩
                case measure => simp [intOf]; omega
            | false =>
              go_wp2
              go_roundw
              case rel => exact ⟨x + 1, by omega, by omega, by go_num, HG1, HB1⟩
              case measure => simp [intOf]; omega
      | false =>
        cases ht1 : (a0 == 2) with
        | true =>
          cases ht2 : (a5 != 0) with
          | true =>
            go_wp2
            go_ret
            exact ⟨⟨true, rfl, trivial⟩, HB1.out⟩
          | false =>
            go_wp2
            go_roundw
            case rel => exact ⟨x + 1, by omega, by omega, by go_num, HG1, HB1⟩
            case measure => simp [intOf]; omega
        | false =>
          go_wp2
          go_roundw
          case rel => exact ⟨x + 1, by omega, by omega, by go_num, HG1, HB1⟩
          case measure => simp [intOf]; omega
    · have hd : decide (x < (nx : Int)) = false := decide_eq_false hlt
      go_wp2
      go_ret
      exact ⟨⟨false, rfl, trivial⟩, HB.out⟩
set_option maxRecDepth 20000 in
set_option maxHeartbeats 8000000 in
theorem chans11_calls (W : World) (Ap : Option Addr) (np cp : Nat) (Ax : Option Addr) (nx cx : Nat) (l0 : Int) (A2 : Option Addr) (n2 c2 : Nat) (l1 : Int) (A3 : Option Addr) (n3 c3 : Nat) (xs : List S87) (hx : Kd.C k87 W Ax nx xs) (hm : nx ≤ 1000000) :
    Calls Try.prog 60 #[.agg #[.slice Ap np cp, .slice Ax nx cx, .int .i64 l0, .slice A2 n2 c2, .int .i64 l1, .slice A3 n3 c3], .int .i64 11] W fun e w' => Tells (fun _ => True) W e w' := by
  have HB := Aside0.mk (below_alloc (Below.refl _ W) (.cells #[.slice Ap np cp, .slice Ax nx cx, .int .i64 l0, .slice A2 n2 c2, .int .i64 l1, .slice A3 n3 c3] 61))
  have HX := Aside0.mk hx
  clear hx
  go_enter Try.func60, Try.ntmps60
  go_wp2_with fail
  go_loopw [5] (fun v wr => ∃ x : Int, 0 ≤ x ∧ x ≤ nx ∧ v = .int .i64 x ∧ Aside0 (wr.heap[W.heap.size]? = some (.cells #[.slice Ap np cp, .slice Ax nx cx, .int .i64 l0, .slice A2 n2 c2, .int .i64 l1, .slice A3 n3 c3] 61 (0, 0))) ∧ Aside0 (Below W.heap.size W wr)) (fun v _ => (nx - (intOf v)).toNat)
  case atStart => exact ⟨0, by omega, by omega, rfl, ⟨blk_new W _⟩, HB⟩
  case round =>
    clear HB
    obtain ⟨x, hx0, hx1, rfl, HG, HB⟩ := hrel
    have hg0 : wr.cell? ⟨W.heap.size, 0, none⟩ = some (.slice Ap np cp) := (blk_cell HG.out 0).trans rfl
    have hg1 : wr.cell? ⟨W.heap.size, 1, none⟩ = some (.slice Ax nx cx) := (blk_cell HG.out 1).trans rfl
    have hg2 : wr.cell? ⟨W.heap.size, 2, none⟩ = some (.int .i64 l0) := (blk_cell HG.out 2).trans rfl
    have hg3 : wr.cell? ⟨W.heap.size, 3, none⟩ = some (.slice A2 n2 c2) := (blk_cell HG.out 3).trans rfl
    have hg4 : wr.cell? ⟨W.heap.size, 4, none⟩ = some (.int .i64 l1) := (blk_cell HG.out 4).trans rfl
    have hg5 : wr.cell? ⟨W.heap.size, 5, none⟩ = some (.slice A3 n3 c3) := (blk_cell HG.out 5).trans rfl
    by_cases hlt : x < (nx : Int)
    · have hd : decide (x < (nx : Int)) = true := decide_eq_true hlt
      have hw1 : wrap64 (x + 1) = x + 1 := by unfold wrap64; omega
      obtain ⟨ax, rfl, d0, d1, d2, d3, d4, d5, d6⟩ := at_T87 (Kd.C_below HX.out HB.out) x hx0 hlt
      generalize (rd_T87 xs x).f0 = a0 at *
      generalize (rd_T87 xs x).f1 = a1 at *
      generalize (rd_T87 xs x).f2 = a2 at *
      generalize (rd_T87 xs x).f3 = a3 at *
      generalize (rd_T87 xs x).f4 = a4 at *
      generalize (rd_T87 xs x).f5 = a5 at *
      generalize (rd_T87 xs x).f6 = a6 at *
      have hbk := below_alloc (Below.refl _ wr) (.cells #[.int .i64 a0, .int .i64 a1, .int .i64 a2, .int .i64 a3, .int .i64 a4, .int .i64 a5, .int .u32 a6] 87)
      have HB1 := Aside0.mk (HB.out.trans (hbk.mono HB.out.size))
      have HG1 := Aside0.mk (blk_below HG.out hbk)
      clear hbk HB HG
      cases ht0 : (a0 == 1) with
      | true =>
        cases ht1 : (a6 != 0) with
        | true =>
          go_wp2
          go_ret
          exact ⟨⟨true, rfl, trivial⟩, HB1.out⟩
        | false =>
          go_wp2
          go_roundw
          case rel => exact ⟨x + 1, by omega, by omega, by go_num, HG1, HB1⟩
          case measure => simp [intOf]; omega
      | false =>
        go_wp2
        go_roundw
        case rel => exact ⟨x + 1, by omega, by omega, by go_num, HG1, HB1⟩
        case measure => simp [intOf]; omega
    · have hd : decide (x < (nx : Int)) = false := decide_eq_false hlt
      go_wp2
      go_ret
      exact ⟨⟨false, rfl, trivial⟩, HB.out⟩
end Go.Proofs.Ytndmdlnmjamgkaa.Core
