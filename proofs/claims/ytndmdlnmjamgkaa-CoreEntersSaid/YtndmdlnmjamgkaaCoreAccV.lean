import Derived.Test.YtndmdlnmjamgkaaCoreAcc
import Derived.Test.YtndmdlnmjamgkaaLin
/- Package portholeref07 (seat of core): window, windows, chans, Holds, All, Accepts; what they tell, in plain words. Written by wip/coreacc.py. -/
namespace Go.Proofs.Ytndmdlnmjamgkaa.Core
open Go.RowKit Go.Proofs.YtndmdlnmjamgkaaW.PrintWords Go.Proofs.YtndmdlnmjamgkaaW.PrintLast Go.Proofs.YtndmdlnmjamgkaaW.PrintMore Go.Proofs.Ytndmdlnmjamgkaa.PF Go.Proofs.Ytndmdlnmjamgkaa.Frame Go.Proofs.Ytndmdlnmjamgkaa.Box Go.Proofs.Ytndmdlnmjamgkaa.Lin
set_option linter.unusedSimpArgs false
set_option linter.unusedVariables false
set_option maxRecDepth 20000 in
set_option maxHeartbeats 8000000 in
theorem windows140_calls (W : World) (Ap : Option Addr) (np cp : Nat) (Ax : Option Addr) (nx cx : Nat) (l0 : Int) (A2 : Option Addr) (n2 c2 : Nat) (l1 : Int) (A3 : Option Addr) (n3 c3 : Nat) (ps : List S69) (ws0 ws1 : List S46) (hp : Kd.C k69 W Ap np ps) (h2 : Kd.C k46 W A2 n2 ws0) (h3 : Kd.C k46 W A3 n3 ws1) (hm2 : n2 ≤ 1000000) (hm3 : n3 ≤ 1000000) :
    Calls Try.prog 61 #[.agg #[.slice Ap np cp, .slice Ax nx cx, .int .i64 l0, .slice A2 n2 c2, .int .i64 l1, .slice A3 n3 c3], .int .i64 0, .int .i64 14] W fun e w' => Tells (fun b => b = false → allTo (W14 ps np ws0 0) n2) W e w' := by
  have HB := Aside0.mk (below_alloc (Below.refl _ W) (.cells #[.slice Ap np cp, .slice Ax nx cx, .int .i64 l0, .slice A2 n2 c2, .int .i64 l1, .slice A3 n3 c3] 61))
  have H2 := Aside0.mk h2
  have H3 := Aside0.mk h3
  have HP := Aside0.mk hp
  clear h2 h3 hp
  go_enter Try.func61, Try.ntmps61
  go_wp2_with fail
  go_loopw [8] (fun v wr => ∃ x : Int, 0 ≤ x ∧ x ≤ n2 ∧ v = .int .i64 x ∧ Aside0 (wr.heap[W.heap.size]? = some (.cells #[.slice Ap np cp, .slice Ax nx cx, .int .i64 l0, .slice A2 n2 c2, .int .i64 l1, .slice A3 n3 c3] 61 (0, 0))) ∧ Aside0 (Below W.heap.size W wr) ∧ Aside0 (allTo (W14 ps np ws0 0) x)) (fun v _ => (n2 - (intOf v)).toNat)
  case atStart => exact ⟨0, by omega, by omega, rfl, ⟨blk_new W _⟩, HB, ⟨allTo_zero _⟩⟩
  case round =>
    clear HB
    obtain ⟨x, hx0, hx1, rfl, HG, HB, HA⟩ := hrel
    have hg0 : wr.cell? ⟨W.heap.size, 0, none⟩ = some (.slice Ap np cp) := (blk_cell HG.out 0).trans rfl
    have hg1 : wr.cell? ⟨W.heap.size, 1, none⟩ = some (.slice Ax nx cx) := (blk_cell HG.out 1).trans rfl
    have hg2 : wr.cell? ⟨W.heap.size, 2, none⟩ = some (.int .i64 l0) := (blk_cell HG.out 2).trans rfl
    have hg3 : wr.cell? ⟨W.heap.size, 3, none⟩ = some (.slice A2 n2 c2) := (blk_cell HG.out 3).trans rfl
    have hg4 : wr.cell? ⟨W.heap.size, 4, none⟩ = some (.int .i64 l1) := (blk_cell HG.out 4).trans rfl
    have hg5 : wr.cell? ⟨W.heap.size, 5, none⟩ = some (.slice A3 n3 c3) := (blk_cell HG.out 5).trans rfl
    by_cases hlt : x < (n2 : Int)
    · have hd : decide (x < (n2 : Int)) = true := decide_eq_true hlt
      have hw1 : wrap64 (x + 1) = x + 1 := by unfold wrap64; omega
      obtain ⟨ax, rfl, d0, d1, d2⟩ := at_T46 (Kd.C_below H2.out HB.out) x hx0 hlt
      obtain ⟨a0, ha0⟩ : ∃ a, (rd_T46 ws0 x).f0 = a := ⟨_, rfl⟩
      obtain ⟨a1, ha1⟩ : ∃ a, (rd_T46 ws0 x).f1 = a := ⟨_, rfl⟩
      obtain ⟨a2, ha2⟩ : ∃ a, (rd_T46 ws0 x).f2 = a := ⟨_, rfl⟩
      rw [ha0] at d0
      rw [ha1] at d1
      rw [ha2] at d2
      have HE := Aside0.mk (And.intro ha0 (And.intro ha1 ha2))
      clear ha0 ha1 ha2
      have hbk := below_alloc (Below.refl _ wr) (.cells #[.int .i64 a0, .int .i64 a1, .int .i64 a2] 46)
      have HB1 := Aside0.mk (HB.out.trans (hbk.mono HB.out.size))
      have HG1 := Aside0.mk (blk_below HG.out hbk)
      have HK1 : Aside0 ((wr.alloc (.cells #[.int .i64 a0, .int .i64 a1, .int .i64 a2] 46)).heap[wr.heap.size]? = some (.cells #[.int .i64 a0, .int .i64 a1, .int .i64 a2] 46 (0, 0))) := ⟨blk_new wr _⟩
      clear hbk HB HG
      have hj0 : (wr.alloc (.cells #[.int .i64 a0, .int .i64 a1, .int .i64 a2] 46)).cell? ⟨W.heap.size, 0, none⟩ = some (.slice Ap np cp) := (blk_cell HG1.out 0).trans rfl
      have hj1 : (wr.alloc (.cells #[.int .i64 a0, .int .i64 a1, .int .i64 a2] 46)).cell? ⟨W.heap.size, 1, none⟩ = some (.slice Ax nx cx) := (blk_cell HG1.out 1).trans rfl
      have hj2 : (wr.alloc (.cells #[.int .i64 a0, .int .i64 a1, .int .i64 a2] 46)).cell? ⟨W.heap.size, 2, none⟩ = some (.int .i64 l0) := (blk_cell HG1.out 2).trans rfl
      have hj3 : (wr.alloc (.cells #[.int .i64 a0, .int .i64 a1, .int .i64 a2] 46)).cell? ⟨W.heap.size, 3, none⟩ = some (.slice (some ax) n2 c2) := (blk_cell HG1.out 3).trans rfl
      have hj4 : (wr.alloc (.cells #[.int .i64 a0, .int .i64 a1, .int .i64 a2] 46)).cell? ⟨W.heap.size, 4, none⟩ = some (.int .i64 l1) := (blk_cell HG1.out 4).trans rfl
      have hj5 : (wr.alloc (.cells #[.int .i64 a0, .int .i64 a1, .int .i64 a2] 46)).cell? ⟨W.heap.size, 5, none⟩ = some (.slice A3 n3 c3) := (blk_cell HG1.out 5).trans rfl
      have hk0 : (wr.alloc (.cells #[.int .i64 a0, .int .i64 a1, .int .i64 a2] 46)).cell? ⟨wr.heap.size, 0, none⟩ = some (.int .i64 a0) := (blk_cell HK1.out 0).trans rfl
      have hk1 : (wr.alloc (.cells #[.int .i64 a0, .int .i64 a1, .int .i64 a2] 46)).cell? ⟨wr.heap.size, 1, none⟩ = some (.int .i64 a1) := (blk_cell HK1.out 1).trans rfl
      have hk2 : (wr.alloc (.cells #[.int .i64 a0, .int .i64 a1, .int .i64 a2] 46)).cell? ⟨wr.heap.size, 2, none⟩ = some (.int .i64 a2) := (blk_cell HK1.out 2).trans rfl
      go_wp2_with fail
      refine (part_calls _ _ _ _ _ _ _ _ _ _ _ _ _ _ _ a0).mono ?_
      rintro e w3 ⟨rfl, hb⟩
      have HB3 := Aside0.mk (HB1.out.trans (hb.mono HB1.out.size))
      have HG3 := Aside0.mk (blk_below HG1.out hb)
      have HK3 := Aside0.mk (blk_below HK1.out hb)
      clear hb HB1 HG1 HK1 hg0 hg1 hg2 hg3 hg4 hg5 hj0 hj1 hj2 hj3 hj4 hj5 hk0 hk1 hk2 d0 d1 d2
      have hk0 : w3.cell? ⟨wr.heap.size, 0, none⟩ = some (.int .i64 a0) := (blk_cell HK3.out 0).trans rfl
      have hk1 : w3.cell? ⟨wr.heap.size, 1, none⟩ = some (.int .i64 a1) := (blk_cell HK3.out 1).trans rfl
      have hk2 : w3.cell? ⟨wr.heap.size, 2, none⟩ = some (.int .i64 a2) := (blk_cell HK3.out 2).trans rfl
      by_cases hpt : 0 ≤ a0 ∧ a0 < (np : Int)
      · rw [decide_eq_true hpt]
        obtain ⟨ap, hap, e0, e1⟩ := at_T69 (Kd.C_below HP.out HB3.out) a0 hpt.1 hpt.2
        subst hap
        have hd2 : decide (a0 < (np : Int)) = true := decide_eq_true hpt.2
        have hd3 : 0 ≤ a0 := hpt.1
        have hd4 : a0 < (np : Int) := hpt.2
        have hg0 : w3.cell? ⟨W.heap.size, 0, none⟩ = some (.slice (some ap) np cp) := (blk_cell HG3.out 0).trans rfl
        have hg1 : w3.cell? ⟨W.heap.size, 1, none⟩ = some (.slice Ax nx cx) := (blk_cell HG3.out 1).trans rfl
        have hg2 : w3.cell? ⟨W.heap.size, 2, none⟩ = some (.int .i64 l0) := (blk_cell HG3.out 2).trans rfl
        have hg3 : w3.cell? ⟨W.heap.size, 3, none⟩ = some (.slice (some ax) n2 c2) := (blk_cell HG3.out 3).trans rfl
        have hg4 : w3.cell? ⟨W.heap.size, 4, none⟩ = some (.int .i64 l1) := (blk_cell HG3.out 4).trans rfl
        have hg5 : w3.cell? ⟨W.heap.size, 5, none⟩ = some (.slice A3 n3 c3) := (blk_cell HG3.out 5).trans rfl
        obtain ⟨core, hco⟩ : ∃ a, (rd_T69 ps a0).f0 = a := ⟨_, rfl⟩
        rw [hco] at e0
        have HCO := Aside0.mk hco
        have HPT := Aside0.mk hpt
        clear hco hpt e1
        by_cases hcf : core = 0
        · have e2 : (core != 0) = false := by simp [hcf]
          have HNEW : Aside0 (W14 ps np ws0 0 x) := ⟨by obtain ⟨q0, q1, q2⟩ := HE.out; unfold W14; rw [q0]; exact ⟨HPT.out, HCO.out.trans hcf⟩⟩
          have HA2 := Aside0.mk (allTo_succ HA.out HNEW.out)
          clear hcf HNEW HCO HPT HE HA
          go_upto_region 12 with fail
          refine start_n 35 (fun w' => True) (by kernel_rfl) rfl (by kernel_rfl) trivial (fun hHeld => ?_)
          iterate 3
            refine pure_n (k' := _) (v := ?_) (a' := ?_) 66 (by simp only [Nat.reduceAdd, Nat.zero_add]; rfl) rfl rfl (by kernel_rfl) (fun _ _ _ h => h) (Or.inl ⟨by rfl, ?_⟩) ?_ ?_
            rotate_left
            · intro w'
              go_simp
              with_reducible rfl
            rotate_left
            · simp only [Act.put, Nat.reduceAdd, List.setIfInBounds_toArray, List.set_cons_zero, List.set_cons_succ, i64_w, i32_w]
              rfl
          iterate 31
            refine pure_n (k' := _) (v := undef) (a' := ?_) 66 (by simp only [Nat.reduceAdd, Nat.zero_add]; rfl) rfl rfl (by kernel_rfl) (fun _ _ _ h => h) (Or.inr ⟨by rfl, rfl⟩) ?_ ?_
            rotate_left
            · simp only [Act.put, Nat.reduceAdd, List.setIfInBounds_toArray, List.set_cons_zero, List.set_cons_succ, i64_w, i32_w]
              rfl
          iterate 1
            refine pure_n (k' := _) (v := ?_) (a' := ?_) 66 (by simp only [Nat.reduceAdd, Nat.zero_add]; rfl) rfl rfl (by kernel_rfl) (fun _ _ _ h => h) (Or.inl ⟨by rfl, ?_⟩) ?_ ?_
            rotate_left
            · intro w'
              go_simp
              with_reducible rfl
            rotate_left
            · simp only [Act.put, Nat.reduceAdd, List.setIfInBounds_toArray, List.set_cons_zero, List.set_cons_succ, i64_w, i32_w]
              rfl
          refine done_ (by kernel_rfl) ?_
          go_upto_region 14 with fail
          refine start_n 47 (fun w' => True) (by kernel_rfl) rfl (by kernel_rfl) trivial (fun hHeld => ?_)
          iterate 3
            refine pure_n (k' := _) (v := ?_) (a' := ?_) 101 (by simp only [Nat.reduceAdd, Nat.zero_add]; rfl) rfl rfl (by kernel_rfl) (fun _ _ _ h => h) (Or.inl ⟨by rfl, ?_⟩) ?_ ?_
            rotate_left
            · intro w'
              go_simp
              with_reducible rfl
            rotate_left
            · simp only [Act.put, Nat.reduceAdd, List.setIfInBounds_toArray, List.set_cons_zero, List.set_cons_succ, i64_w, i32_w]
              rfl
          iterate 2
            refine pure_n (k' := _) (v := undef) (a' := ?_) 101 (by simp only [Nat.reduceAdd, Nat.zero_add]; rfl) rfl rfl (by kernel_rfl) (fun _ _ _ h => h) (Or.inr ⟨by rfl, rfl⟩) ?_ ?_
            rotate_left
            · simp only [Act.put, Nat.reduceAdd, List.setIfInBounds_toArray, List.set_cons_zero, List.set_cons_succ, i64_w, i32_w]
              rfl
          iterate 2
            refine pure_n (k' := _) (v := ?_) (a' := ?_) 101 (by simp only [Nat.reduceAdd, Nat.zero_add]; rfl) rfl rfl (by kernel_rfl) (fun _ _ _ h => h) (Or.inl ⟨by rfl, ?_⟩) ?_ ?_
            rotate_left
            · intro w'
              go_simp
              with_reducible rfl
            rotate_left
            · simp only [Act.put, Nat.reduceAdd, List.setIfInBounds_toArray, List.set_cons_zero, List.set_cons_succ, i64_w, i32_w]
              rfl
          iterate 3
            refine pure_n (k' := _) (v := undef) (a' := ?_) 101 (by simp only [Nat.reduceAdd, Nat.zero_add]; rfl) rfl rfl (by kernel_rfl) (fun _ _ _ h => h) (Or.inr ⟨by rfl, rfl⟩) ?_ ?_
            rotate_left
            · simp only [Act.put, Nat.reduceAdd, List.setIfInBounds_toArray, List.set_cons_zero, List.set_cons_succ, i64_w, i32_w]
              rfl
          iterate 2
            refine pure_n (k' := _) (v := ?_) (a' := ?_) 101 (by simp only [Nat.reduceAdd, Nat.zero_add]; rfl) rfl rfl (by kernel_rfl) (fun _ _ _ h => h) (Or.inl ⟨by rfl, ?_⟩) ?_ ?_
            rotate_left
            · intro w'
              go_simp
              with_reducible rfl
            rotate_left
            · simp only [Act.put, Nat.reduceAdd, List.setIfInBounds_toArray, List.set_cons_zero, List.set_cons_succ, i64_w, i32_w]
              rfl
          iterate 7
            refine pure_n (k' := _) (v := undef) (a' := ?_) 101 (by simp only [Nat.reduceAdd, Nat.zero_add]; rfl) rfl rfl (by kernel_rfl) (fun _ _ _ h => h) (Or.inr ⟨by rfl, rfl⟩) ?_ ?_
            rotate_left
            · simp only [Act.put, Nat.reduceAdd, List.setIfInBounds_toArray, List.set_cons_zero, List.set_cons_succ, i64_w, i32_w]
              rfl
          iterate 2
            refine pure_n (k' := _) (v := ?_) (a' := ?_) 101 (by simp only [Nat.reduceAdd, Nat.zero_add]; rfl) rfl rfl (by kernel_rfl) (fun _ _ _ h => h) (Or.inl ⟨by rfl, ?_⟩) ?_ ?_
            rotate_left
            · intro w'
              go_simp
              with_reducible rfl
            rotate_left
            · simp only [Act.put, Nat.reduceAdd, List.setIfInBounds_toArray, List.set_cons_zero, List.set_cons_succ, i64_w, i32_w]
              rfl
          iterate 7
            refine pure_n (k' := _) (v := undef) (a' := ?_) 101 (by simp only [Nat.reduceAdd, Nat.zero_add]; rfl) rfl rfl (by kernel_rfl) (fun _ _ _ h => h) (Or.inr ⟨by rfl, rfl⟩) ?_ ?_
            rotate_left
            · simp only [Act.put, Nat.reduceAdd, List.setIfInBounds_toArray, List.set_cons_zero, List.set_cons_succ, i64_w, i32_w]
              rfl
          iterate 2
            refine pure_n (k' := _) (v := ?_) (a' := ?_) 101 (by simp only [Nat.reduceAdd, Nat.zero_add]; rfl) rfl rfl (by kernel_rfl) (fun _ _ _ h => h) (Or.inl ⟨by rfl, ?_⟩) ?_ ?_
            rotate_left
            · intro w'
              go_simp
              with_reducible rfl
            rotate_left
            · simp only [Act.put, Nat.reduceAdd, List.setIfInBounds_toArray, List.set_cons_zero, List.set_cons_succ, i64_w, i32_w]
              rfl
          iterate 16
            refine pure_n (k' := _) (v := undef) (a' := ?_) 101 (by simp only [Nat.reduceAdd, Nat.zero_add]; rfl) rfl rfl (by kernel_rfl) (fun _ _ _ h => h) (Or.inr ⟨by rfl, rfl⟩) ?_ ?_
            rotate_left
            · simp only [Act.put, Nat.reduceAdd, List.setIfInBounds_toArray, List.set_cons_zero, List.set_cons_succ, i64_w, i32_w]
              rfl
          iterate 1
            refine pure_n (k' := _) (v := ?_) (a' := ?_) 101 (by simp only [Nat.reduceAdd, Nat.zero_add]; rfl) rfl rfl (by kernel_rfl) (fun _ _ _ h => h) (Or.inl ⟨by rfl, ?_⟩) ?_ ?_
            rotate_left
            · intro w'
              go_simp
              with_reducible rfl
            rotate_left
            · simp only [Act.put, Nat.reduceAdd, List.setIfInBounds_toArray, List.set_cons_zero, List.set_cons_succ, i64_w, i32_w]
              rfl
          refine done_ (by kernel_rfl) ?_
          have hdr := below_drew1 (below_drew1 (Below.refl w3.heap.size w3))
          have HB5 := Aside0.mk (HB3.out.trans (hdr.mono HB3.out.size))
          have HG5 := Aside0.mk (blk_below HG3.out hdr)
          clear hdr
          go_wp2
          go_roundw
          case rel => exact ⟨x + 1, by omega, by omega, by go_num, HG5, HB5, HA2⟩
          case measure => simp [intOf]; omega
        · have e2 : (core != 0) = true := by simp [hcf]
          clear hcf HCO HPT HE HA
          go_wp2
          go_ret
          exact ⟨⟨true, rfl, fun h => by cases h⟩, HB3.out⟩
      · rw [decide_eq_false hpt]
        clear hpt HE HA
        have hg0 : w3.cell? ⟨W.heap.size, 0, none⟩ = some (.slice Ap np cp) := (blk_cell HG3.out 0).trans rfl
        have hg1 : w3.cell? ⟨W.heap.size, 1, none⟩ = some (.slice Ax nx cx) := (blk_cell HG3.out 1).trans rfl
        have hg2 : w3.cell? ⟨W.heap.size, 2, none⟩ = some (.int .i64 l0) := (blk_cell HG3.out 2).trans rfl
        have hg3 : w3.cell? ⟨W.heap.size, 3, none⟩ = some (.slice (some ax) n2 c2) := (blk_cell HG3.out 3).trans rfl
        have hg4 : w3.cell? ⟨W.heap.size, 4, none⟩ = some (.int .i64 l1) := (blk_cell HG3.out 4).trans rfl
        have hg5 : w3.cell? ⟨W.heap.size, 5, none⟩ = some (.slice A3 n3 c3) := (blk_cell HG3.out 5).trans rfl
        go_wp2
        go_ret
        exact ⟨⟨true, rfl, fun h => by cases h⟩, HB3.out⟩
    · have hd : decide (x < (n2 : Int)) = false := decide_eq_false hlt
      obtain rfl : x = n2 := by omega
      go_wp2
      go_ret
      exact ⟨⟨false, rfl, fun _ => HA.out⟩, HB.out⟩
set_option maxRecDepth 20000 in
set_option maxHeartbeats 8000000 in
theorem windows141_calls (W : World) (Ap : Option Addr) (np cp : Nat) (Ax : Option Addr) (nx cx : Nat) (l0 : Int) (A2 : Option Addr) (n2 c2 : Nat) (l1 : Int) (A3 : Option Addr) (n3 c3 : Nat) (ps : List S69) (ws0 ws1 : List S46) (hp : Kd.C k69 W Ap np ps) (h2 : Kd.C k46 W A2 n2 ws0) (h3 : Kd.C k46 W A3 n3 ws1) (hm2 : n2 ≤ 1000000) (hm3 : n3 ≤ 1000000) :
    Calls Try.prog 61 #[.agg #[.slice Ap np cp, .slice Ax nx cx, .int .i64 l0, .slice A2 n2 c2, .int .i64 l1, .slice A3 n3 c3], .int .i64 1, .int .i64 14] W fun e w' => Tells (fun b => b = false → allTo (W14 ps np ws1 1) n3) W e w' := by
  have HB := Aside0.mk (below_alloc (Below.refl _ W) (.cells #[.slice Ap np cp, .slice Ax nx cx, .int .i64 l0, .slice A2 n2 c2, .int .i64 l1, .slice A3 n3 c3] 61))
  have H2 := Aside0.mk h2
  have H3 := Aside0.mk h3
  have HP := Aside0.mk hp
  clear h2 h3 hp
  go_enter Try.func61, Try.ntmps61
  go_wp2_with fail
  go_loopw [8] (fun v wr => ∃ x : Int, 0 ≤ x ∧ x ≤ n3 ∧ v = .int .i64 x ∧ Aside0 (wr.heap[W.heap.size]? = some (.cells #[.slice Ap np cp, .slice Ax nx cx, .int .i64 l0, .slice A2 n2 c2, .int .i64 l1, .slice A3 n3 c3] 61 (0, 0))) ∧ Aside0 (Below W.heap.size W wr) ∧ Aside0 (allTo (W14 ps np ws1 1) x)) (fun v _ => (n3 - (intOf v)).toNat)
  case atStart => exact ⟨0, by omega, by omega, rfl, ⟨blk_new W _⟩, HB, ⟨allTo_zero _⟩⟩
  case round =>
    clear HB
    obtain ⟨x, hx0, hx1, rfl, HG, HB, HA⟩ := hrel
    have hg0 : wr.cell? ⟨W.heap.size, 0, none⟩ = some (.slice Ap np cp) := (blk_cell HG.out 0).trans rfl
    have hg1 : wr.cell? ⟨W.heap.size, 1, none⟩ = some (.slice Ax nx cx) := (blk_cell HG.out 1).trans rfl
    have hg2 : wr.cell? ⟨W.heap.size, 2, none⟩ = some (.int .i64 l0) := (blk_cell HG.out 2).trans rfl
    have hg3 : wr.cell? ⟨W.heap.size, 3, none⟩ = some (.slice A2 n2 c2) := (blk_cell HG.out 3).trans rfl
    have hg4 : wr.cell? ⟨W.heap.size, 4, none⟩ = some (.int .i64 l1) := (blk_cell HG.out 4).trans rfl
    have hg5 : wr.cell? ⟨W.heap.size, 5, none⟩ = some (.slice A3 n3 c3) := (blk_cell HG.out 5).trans rfl
    by_cases hlt : x < (n3 : Int)
    · have hd : decide (x < (n3 : Int)) = true := decide_eq_true hlt
      have hw1 : wrap64 (x + 1) = x + 1 := by unfold wrap64; omega
      obtain ⟨ax, rfl, d0, d1, d2⟩ := at_T46 (Kd.C_below H3.out HB.out) x hx0 hlt
      obtain ⟨a0, ha0⟩ : ∃ a, (rd_T46 ws1 x).f0 = a := ⟨_, rfl⟩
      obtain ⟨a1, ha1⟩ : ∃ a, (rd_T46 ws1 x).f1 = a := ⟨_, rfl⟩
      obtain ⟨a2, ha2⟩ : ∃ a, (rd_T46 ws1 x).f2 = a := ⟨_, rfl⟩
      rw [ha0] at d0
      rw [ha1] at d1
      rw [ha2] at d2
      have HE := Aside0.mk (And.intro ha0 (And.intro ha1 ha2))
      clear ha0 ha1 ha2
      have hbk := below_alloc (Below.refl _ wr) (.cells #[.int .i64 a0, .int .i64 a1, .int .i64 a2] 46)
      have HB1 := Aside0.mk (HB.out.trans (hbk.mono HB.out.size))
      have HG1 := Aside0.mk (blk_below HG.out hbk)
      have HK1 : Aside0 ((wr.alloc (.cells #[.int .i64 a0, .int .i64 a1, .int .i64 a2] 46)).heap[wr.heap.size]? = some (.cells #[.int .i64 a0, .int .i64 a1, .int .i64 a2] 46 (0, 0))) := ⟨blk_new wr _⟩
      clear hbk HB HG
      have hj0 : (wr.alloc (.cells #[.int .i64 a0, .int .i64 a1, .int .i64 a2] 46)).cell? ⟨W.heap.size, 0, none⟩ = some (.slice Ap np cp) := (blk_cell HG1.out 0).trans rfl
      have hj1 : (wr.alloc (.cells #[.int .i64 a0, .int .i64 a1, .int .i64 a2] 46)).cell? ⟨W.heap.size, 1, none⟩ = some (.slice Ax nx cx) := (blk_cell HG1.out 1).trans rfl
      have hj2 : (wr.alloc (.cells #[.int .i64 a0, .int .i64 a1, .int .i64 a2] 46)).cell? ⟨W.heap.size, 2, none⟩ = some (.int .i64 l0) := (blk_cell HG1.out 2).trans rfl
      have hj3 : (wr.alloc (.cells #[.int .i64 a0, .int .i64 a1, .int .i64 a2] 46)).cell? ⟨W.heap.size, 3, none⟩ = some (.slice A2 n2 c2) := (blk_cell HG1.out 3).trans rfl
      have hj4 : (wr.alloc (.cells #[.int .i64 a0, .int .i64 a1, .int .i64 a2] 46)).cell? ⟨W.heap.size, 4, none⟩ = some (.int .i64 l1) := (blk_cell HG1.out 4).trans rfl
      have hj5 : (wr.alloc (.cells #[.int .i64 a0, .int .i64 a1, .int .i64 a2] 46)).cell? ⟨W.heap.size, 5, none⟩ = some (.slice (some ax) n3 c3) := (blk_cell HG1.out 5).trans rfl
      have hk0 : (wr.alloc (.cells #[.int .i64 a0, .int .i64 a1, .int .i64 a2] 46)).cell? ⟨wr.heap.size, 0, none⟩ = some (.int .i64 a0) := (blk_cell HK1.out 0).trans rfl
      have hk1 : (wr.alloc (.cells #[.int .i64 a0, .int .i64 a1, .int .i64 a2] 46)).cell? ⟨wr.heap.size, 1, none⟩ = some (.int .i64 a1) := (blk_cell HK1.out 1).trans rfl
      have hk2 : (wr.alloc (.cells #[.int .i64 a0, .int .i64 a1, .int .i64 a2] 46)).cell? ⟨wr.heap.size, 2, none⟩ = some (.int .i64 a2) := (blk_cell HK1.out 2).trans rfl
      go_wp2_with fail
      refine (part_calls _ _ _ _ _ _ _ _ _ _ _ _ _ _ _ a0).mono ?_
      rintro e w3 ⟨rfl, hb⟩
      have HB3 := Aside0.mk (HB1.out.trans (hb.mono HB1.out.size))
      have HG3 := Aside0.mk (blk_below HG1.out hb)
      have HK3 := Aside0.mk (blk_below HK1.out hb)
      clear hb HB1 HG1 HK1 hg0 hg1 hg2 hg3 hg4 hg5 hj0 hj1 hj2 hj3 hj4 hj5 hk0 hk1 hk2 d0 d1 d2
      have hk0 : w3.cell? ⟨wr.heap.size, 0, none⟩ = some (.int .i64 a0) := (blk_cell HK3.out 0).trans rfl
      have hk1 : w3.cell? ⟨wr.heap.size, 1, none⟩ = some (.int .i64 a1) := (blk_cell HK3.out 1).trans rfl
      have hk2 : w3.cell? ⟨wr.heap.size, 2, none⟩ = some (.int .i64 a2) := (blk_cell HK3.out 2).trans rfl
      by_cases hpt : 0 ≤ a0 ∧ a0 < (np : Int)
      · rw [decide_eq_true hpt]
        obtain ⟨ap, hap, e0, e1⟩ := at_T69 (Kd.C_below HP.out HB3.out) a0 hpt.1 hpt.2
        subst hap
        have hd2 : decide (a0 < (np : Int)) = true := decide_eq_true hpt.2
        have hd3 : 0 ≤ a0 := hpt.1
        have hd4 : a0 < (np : Int) := hpt.2
        have hg0 : w3.cell? ⟨W.heap.size, 0, none⟩ = some (.slice (some ap) np cp) := (blk_cell HG3.out 0).trans rfl
        have hg1 : w3.cell? ⟨W.heap.size, 1, none⟩ = some (.slice Ax nx cx) := (blk_cell HG3.out 1).trans rfl
        have hg2 : w3.cell? ⟨W.heap.size, 2, none⟩ = some (.int .i64 l0) := (blk_cell HG3.out 2).trans rfl
        have hg3 : w3.cell? ⟨W.heap.size, 3, none⟩ = some (.slice A2 n2 c2) := (blk_cell HG3.out 3).trans rfl
        have hg4 : w3.cell? ⟨W.heap.size, 4, none⟩ = some (.int .i64 l1) := (blk_cell HG3.out 4).trans rfl
        have hg5 : w3.cell? ⟨W.heap.size, 5, none⟩ = some (.slice (some ax) n3 c3) := (blk_cell HG3.out 5).trans rfl
        obtain ⟨core, hco⟩ : ∃ a, (rd_T69 ps a0).f0 = a := ⟨_, rfl⟩
        rw [hco] at e0
        have HCO := Aside0.mk hco
        have HPT := Aside0.mk hpt
        clear hco hpt e1
        by_cases hcf : core = 1
        · have e2 : (core != 1) = false := by simp [hcf]
          have HNEW : Aside0 (W14 ps np ws1 1 x) := ⟨by obtain ⟨q0, q1, q2⟩ := HE.out; unfold W14; rw [q0]; exact ⟨HPT.out, HCO.out.trans hcf⟩⟩
          have HA2 := Aside0.mk (allTo_succ HA.out HNEW.out)
          clear hcf HNEW HCO HPT HE HA
          go_upto_region 12 with fail
          refine start_n 35 (fun w' => True) (by kernel_rfl) rfl (by kernel_rfl) trivial (fun hHeld => ?_)
          iterate 3
            refine pure_n (k' := _) (v := ?_) (a' := ?_) 66 (by simp only [Nat.reduceAdd, Nat.zero_add]; rfl) rfl rfl (by kernel_rfl) (fun _ _ _ h => h) (Or.inl ⟨by rfl, ?_⟩) ?_ ?_
            rotate_left
            · intro w'
              go_simp
              with_reducible rfl
            rotate_left
            · simp only [Act.put, Nat.reduceAdd, List.setIfInBounds_toArray, List.set_cons_zero, List.set_cons_succ, i64_w, i32_w]
              rfl
          iterate 31
            refine pure_n (k' := _) (v := undef) (a' := ?_) 66 (by simp only [Nat.reduceAdd, Nat.zero_add]; rfl) rfl rfl (by kernel_rfl) (fun _ _ _ h => h) (Or.inr ⟨by rfl, rfl⟩) ?_ ?_
            rotate_left
            · simp only [Act.put, Nat.reduceAdd, List.setIfInBounds_toArray, List.set_cons_zero, List.set_cons_succ, i64_w, i32_w]
              rfl
          iterate 1
            refine pure_n (k' := _) (v := ?_) (a' := ?_) 66 (by simp only [Nat.reduceAdd, Nat.zero_add]; rfl) rfl rfl (by kernel_rfl) (fun _ _ _ h => h) (Or.inl ⟨by rfl, ?_⟩) ?_ ?_
            rotate_left
            · intro w'
              go_simp
              with_reducible rfl
            rotate_left
            · simp only [Act.put, Nat.reduceAdd, List.setIfInBounds_toArray, List.set_cons_zero, List.set_cons_succ, i64_w, i32_w]
              rfl
          refine done_ (by kernel_rfl) ?_
          go_upto_region 14 with fail
          refine start_n 47 (fun w' => True) (by kernel_rfl) rfl (by kernel_rfl) trivial (fun hHeld => ?_)
          iterate 3
            refine pure_n (k' := _) (v := ?_) (a' := ?_) 101 (by simp only [Nat.reduceAdd, Nat.zero_add]; rfl) rfl rfl (by kernel_rfl) (fun _ _ _ h => h) (Or.inl ⟨by rfl, ?_⟩) ?_ ?_
            rotate_left
            · intro w'
              go_simp
              with_reducible rfl
            rotate_left
            · simp only [Act.put, Nat.reduceAdd, List.setIfInBounds_toArray, List.set_cons_zero, List.set_cons_succ, i64_w, i32_w]
              rfl
          iterate 2
            refine pure_n (k' := _) (v := undef) (a' := ?_) 101 (by simp only [Nat.reduceAdd, Nat.zero_add]; rfl) rfl rfl (by kernel_rfl) (fun _ _ _ h => h) (Or.inr ⟨by rfl, rfl⟩) ?_ ?_
            rotate_left
            · simp only [Act.put, Nat.reduceAdd, List.setIfInBounds_toArray, List.set_cons_zero, List.set_cons_succ, i64_w, i32_w]
              rfl
          iterate 2
            refine pure_n (k' := _) (v := ?_) (a' := ?_) 101 (by simp only [Nat.reduceAdd, Nat.zero_add]; rfl) rfl rfl (by kernel_rfl) (fun _ _ _ h => h) (Or.inl ⟨by rfl, ?_⟩) ?_ ?_
            rotate_left
            · intro w'
              go_simp
              with_reducible rfl
            rotate_left
            · simp only [Act.put, Nat.reduceAdd, List.setIfInBounds_toArray, List.set_cons_zero, List.set_cons_succ, i64_w, i32_w]
              rfl
          iterate 3
            refine pure_n (k' := _) (v := undef) (a' := ?_) 101 (by simp only [Nat.reduceAdd, Nat.zero_add]; rfl) rfl rfl (by kernel_rfl) (fun _ _ _ h => h) (Or.inr ⟨by rfl, rfl⟩) ?_ ?_
            rotate_left
            · simp only [Act.put, Nat.reduceAdd, List.setIfInBounds_toArray, List.set_cons_zero, List.set_cons_succ, i64_w, i32_w]
              rfl
          iterate 2
            refine pure_n (k' := _) (v := ?_) (a' := ?_) 101 (by simp only [Nat.reduceAdd, Nat.zero_add]; rfl) rfl rfl (by kernel_rfl) (fun _ _ _ h => h) (Or.inl ⟨by rfl, ?_⟩) ?_ ?_
            rotate_left
            · intro w'
              go_simp
              with_reducible rfl
            rotate_left
            · simp only [Act.put, Nat.reduceAdd, List.setIfInBounds_toArray, List.set_cons_zero, List.set_cons_succ, i64_w, i32_w]
              rfl
          iterate 7
            refine pure_n (k' := _) (v := undef) (a' := ?_) 101 (by simp only [Nat.reduceAdd, Nat.zero_add]; rfl) rfl rfl (by kernel_rfl) (fun _ _ _ h => h) (Or.inr ⟨by rfl, rfl⟩) ?_ ?_
            rotate_left
            · simp only [Act.put, Nat.reduceAdd, List.setIfInBounds_toArray, List.set_cons_zero, List.set_cons_succ, i64_w, i32_w]
              rfl
          iterate 2
            refine pure_n (k' := _) (v := ?_) (a' := ?_) 101 (by simp only [Nat.reduceAdd, Nat.zero_add]; rfl) rfl rfl (by kernel_rfl) (fun _ _ _ h => h) (Or.inl ⟨by rfl, ?_⟩) ?_ ?_
            rotate_left
            · intro w'
              go_simp
              with_reducible rfl
            rotate_left
            · simp only [Act.put, Nat.reduceAdd, List.setIfInBounds_toArray, List.set_cons_zero, List.set_cons_succ, i64_w, i32_w]
              rfl
          iterate 7
            refine pure_n (k' := _) (v := undef) (a' := ?_) 101 (by simp only [Nat.reduceAdd, Nat.zero_add]; rfl) rfl rfl (by kernel_rfl) (fun _ _ _ h => h) (Or.inr ⟨by rfl, rfl⟩) ?_ ?_
            rotate_left
            · simp only [Act.put, Nat.reduceAdd, List.setIfInBounds_toArray, List.set_cons_zero, List.set_cons_succ, i64_w, i32_w]
              rfl
          iterate 2
            refine pure_n (k' := _) (v := ?_) (a' := ?_) 101 (by simp only [Nat.reduceAdd, Nat.zero_add]; rfl) rfl rfl (by kernel_rfl) (fun _ _ _ h => h) (Or.inl ⟨by rfl, ?_⟩) ?_ ?_
            rotate_left
            · intro w'
              go_simp
              with_reducible rfl
            rotate_left
            · simp only [Act.put, Nat.reduceAdd, List.setIfInBounds_toArray, List.set_cons_zero, List.set_cons_succ, i64_w, i32_w]
              rfl
          iterate 16
            refine pure_n (k' := _) (v := undef) (a' := ?_) 101 (by simp only [Nat.reduceAdd, Nat.zero_add]; rfl) rfl rfl (by kernel_rfl) (fun _ _ _ h => h) (Or.inr ⟨by rfl, rfl⟩) ?_ ?_
            rotate_left
            · simp only [Act.put, Nat.reduceAdd, List.setIfInBounds_toArray, List.set_cons_zero, List.set_cons_succ, i64_w, i32_w]
              rfl
          iterate 1
            refine pure_n (k' := _) (v := ?_) (a' := ?_) 101 (by simp only [Nat.reduceAdd, Nat.zero_add]; rfl) rfl rfl (by kernel_rfl) (fun _ _ _ h => h) (Or.inl ⟨by rfl, ?_⟩) ?_ ?_
            rotate_left
            · intro w'
              go_simp
              with_reducible rfl
            rotate_left
            · simp only [Act.put, Nat.reduceAdd, List.setIfInBounds_toArray, List.set_cons_zero, List.set_cons_succ, i64_w, i32_w]
              rfl
          refine done_ (by kernel_rfl) ?_
          have hdr := below_drew1 (below_drew1 (Below.refl w3.heap.size w3))
          have HB5 := Aside0.mk (HB3.out.trans (hdr.mono HB3.out.size))
          have HG5 := Aside0.mk (blk_below HG3.out hdr)
          clear hdr
          go_wp2
          go_roundw
          case rel => exact ⟨x + 1, by omega, by omega, by go_num, HG5, HB5, HA2⟩
          case measure => simp [intOf]; omega
        · have e2 : (core != 1) = true := by simp [hcf]
          clear hcf HCO HPT HE HA
          go_wp2
          go_ret
          exact ⟨⟨true, rfl, fun h => by cases h⟩, HB3.out⟩
      · rw [decide_eq_false hpt]
        clear hpt HE HA
        have hg0 : w3.cell? ⟨W.heap.size, 0, none⟩ = some (.slice Ap np cp) := (blk_cell HG3.out 0).trans rfl
        have hg1 : w3.cell? ⟨W.heap.size, 1, none⟩ = some (.slice Ax nx cx) := (blk_cell HG3.out 1).trans rfl
        have hg2 : w3.cell? ⟨W.heap.size, 2, none⟩ = some (.int .i64 l0) := (blk_cell HG3.out 2).trans rfl
        have hg3 : w3.cell? ⟨W.heap.size, 3, none⟩ = some (.slice A2 n2 c2) := (blk_cell HG3.out 3).trans rfl
        have hg4 : w3.cell? ⟨W.heap.size, 4, none⟩ = some (.int .i64 l1) := (blk_cell HG3.out 4).trans rfl
        have hg5 : w3.cell? ⟨W.heap.size, 5, none⟩ = some (.slice (some ax) n3 c3) := (blk_cell HG3.out 5).trans rfl
        go_wp2
        go_ret
        exact ⟨⟨true, rfl, fun h => by cases h⟩, HB3.out⟩
    · have hd : decide (x < (n3 : Int)) = false := decide_eq_false hlt
      obtain rfl : x = n3 := by omega
      go_wp2
      go_ret
      exact ⟨⟨false, rfl, fun _ => HA.out⟩, HB.out⟩
end Go.Proofs.Ytndmdlnmjamgkaa.Core
