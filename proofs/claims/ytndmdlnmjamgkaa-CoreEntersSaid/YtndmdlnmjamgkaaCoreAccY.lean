import Derived.Test.YtndmdlnmjamgkaaCoreAcc
import Derived.Test.YtndmdlnmjamgkaaLin
/- Package portholeref07 (seat of core): window, windows, chans, Holds, All, Accepts; what they tell, in plain words. Written by wip/coreacc.py. -/
namespace Go.Proofs.Ytndmdlnmjamgkaa.Core
open Go.RowKit Go.Proofs.YtndmdlnmjamgkaaW.PrintWords Go.Proofs.YtndmdlnmjamgkaaW.PrintLast Go.Proofs.YtndmdlnmjamgkaaW.PrintMore Go.Proofs.Ytndmdlnmjamgkaa.PF Go.Proofs.Ytndmdlnmjamgkaa.Frame Go.Proofs.Ytndmdlnmjamgkaa.Box Go.Proofs.Ytndmdlnmjamgkaa.Lin
set_option linter.unusedSimpArgs false
set_option linter.unusedVariables false
set_option maxRecDepth 20000 in
set_option maxHeartbeats 8000000 in
theorem windows161_calls (W : World) (Ap : Option Addr) (np cp : Nat) (Ax : Option Addr) (nx cx : Nat) (l0 : Int) (A2 : Option Addr) (n2 c2 : Nat) (l1 : Int) (A3 : Option Addr) (n3 c3 : Nat) (ps : List S69) (ws0 ws1 : List S46) (hp : Kd.C k69 W Ap np ps) (h2 : Kd.C k46 W A2 n2 ws0) (h3 : Kd.C k46 W A3 n3 ws1) (hm2 : n2 ≤ 1000000) (hm3 : n3 ≤ 1000000) :
    Calls Try.prog 61 #[.agg #[.slice Ap np cp, .slice Ax nx cx, .int .i64 l0, .slice A2 n2 c2, .int .i64 l1, .slice A3 n3 c3], .int .i64 1, .int .i64 16] W fun e w' => Tells (fun b => b = false → allTo (W16 ws1) n3) W e w' := by
  have HB := Aside0.mk (below_alloc (Below.refl _ W) (.cells #[.slice Ap np cp, .slice Ax nx cx, .int .i64 l0, .slice A2 n2 c2, .int .i64 l1, .slice A3 n3 c3] 61))
  have H2 := Aside0.mk h2
  have H3 := Aside0.mk h3
  have HP := Aside0.mk hp
  clear h2 h3 hp
  go_enter Try.func61, Try.ntmps61
  go_wp2_with fail
  go_loopw [8] (fun v wr => ∃ x : Int, 0 ≤ x ∧ x ≤ n3 ∧ v = .int .i64 x ∧ Aside0 (wr.heap[W.heap.size]? = some (.cells #[.slice Ap np cp, .slice Ax nx cx, .int .i64 l0, .slice A2 n2 c2, .int .i64 l1, .slice A3 n3 c3] 61 (0, 0))) ∧ Aside0 (Below W.heap.size W wr) ∧ Aside0 (allTo (W16 ws1) x)) (fun v _ => (n3 - (intOf v)).toNat)
  case atStart => exact ⟨0, by omega, by omega, rfl, ⟨blk_new W _⟩, HB, ⟨allTo_zero _⟩⟩
  case round =>
    clear HB
    obtain ⟨x, hx0, hx1, rfl, HG, HB, HA⟩ := hrel
    have hg0 : wr.cell? ⟨W.heap.size, 0, none⟩ = some (.slice Ap np cp) := (blk_cell HG.out 0).trans rfl
    have hg1 : wr.cell? ⟨W.heap.size, 1, none⟩ = some (.slice Ax nx cx) := (blk_cell HG.out 1).trans rfl
    have hg2 : wr.cell? ⟨W.heap.size, 2, none⟩ = some (.int .i64 l0) := (blk_cell HG.out 2).trans rfl
    have hg3 : wr.cell? ⟨W.heap.size, 3, none⟩ = some (.slice A2 n2 c2) := (blk_cell HG.out 3).trans rfl
    have hg4 : wr.cell? ⟨W.heap.size, 4, none⟩ = some (.int .i64 l1) := (blk_cell HG.out 4).trans rfl
    have hg5 : wr.cell? ⟨W.heap.size, 5, none⟩ = some (.slice A3 n3 c3) := (blk_cell HG.out 5).trans rfl
    by_cases hlt : x < (n3 : Int)
    · have hd : decide (x < (n3 : Int)) = true := decide_eq_true hlt
      have hw1 : wrap64 (x + 1) = x + 1 := by unfold wrap64; omega
      obtain ⟨ax, rfl, d0, d1, d2⟩ := at_T46 (Kd.C_below H3.out HB.out) x hx0 hlt
      obtain ⟨a0, ha0⟩ : ∃ a, (rd_T46 ws1 x).f0 = a := ⟨_, rfl⟩
      obtain ⟨a1, ha1⟩ : ∃ a, (rd_T46 ws1 x).f1 = a := ⟨_, rfl⟩
      obtain ⟨a2, ha2⟩ : ∃ a, (rd_T46 ws1 x).f2 = a := ⟨_, rfl⟩
      rw [ha0] at d0
      rw [ha1] at d1
      rw [ha2] at d2
      have HE := Aside0.mk (And.intro ha0 (And.intro ha1 ha2))
      clear ha0 ha1 ha2
      have hbk := below_alloc (Below.refl _ wr) (.cells #[.int .i64 a0, .int .i64 a1, .int .i64 a2] 46)
      have HB1 := Aside0.mk (HB.out.trans (hbk.mono HB.out.size))
      have HG1 := Aside0.mk (blk_below HG.out hbk)
      have HK1 : Aside0 ((wr.alloc (.cells #[.int .i64 a0, .int .i64 a1, .int .i64 a2] 46)).heap[wr.heap.size]? = some (.cells #[.int .i64 a0, .int .i64 a1, .int .i64 a2] 46 (0, 0))) := ⟨blk_new wr _⟩
      clear hbk HB HG
      have hj0 : (wr.alloc (.cells #[.int .i64 a0, .int .i64 a1, .int .i64 a2] 46)).cell? ⟨W.heap.size, 0, none⟩ = some (.slice Ap np cp) := (blk_cell HG1.out 0).trans rfl
      have hj1 : (wr.alloc (.cells #[.int .i64 a0, .int .i64 a1, .int .i64 a2] 46)).cell? ⟨W.heap.size, 1, none⟩ = some (.slice Ax nx cx) := (blk_cell HG1.out 1).trans rfl
      have hj2 : (wr.alloc (.cells #[.int .i64 a0, .int .i64 a1, .int .i64 a2] 46)).cell? ⟨W.heap.size, 2, none⟩ = some (.int .i64 l0) := (blk_cell HG1.out 2).trans rfl
      have hj3 : (wr.alloc (.cells #[.int .i64 a0, .int .i64 a1, .int .i64 a2] 46)).cell? ⟨W.heap.size, 3, none⟩ = some (.slice A2 n2 c2) := (blk_cell HG1.out 3).trans rfl
      have hj4 : (wr.alloc (.cells #[.int .i64 a0, .int .i64 a1, .int .i64 a2] 46)).cell? ⟨W.heap.size, 4, none⟩ = some (.int .i64 l1) := (blk_cell HG1.out 4).trans rfl
      have hj5 : (wr.alloc (.cells #[.int .i64 a0, .int .i64 a1, .int .i64 a2] 46)).cell? ⟨W.heap.size, 5, none⟩ = some (.slice (some ax) n3 c3) := (blk_cell HG1.out 5).trans rfl
      have hk0 : (wr.alloc (.cells #[.int .i64 a0, .int .i64 a1, .int .i64 a2] 46)).cell? ⟨wr.heap.size, 0, none⟩ = some (.int .i64 a0) := (blk_cell HK1.out 0).trans rfl
      have hk1 : (wr.alloc (.cells #[.int .i64 a0, .int .i64 a1, .int .i64 a2] 46)).cell? ⟨wr.heap.size, 1, none⟩ = some (.int .i64 a1) := (blk_cell HK1.out 1).trans rfl
      have hk2 : (wr.alloc (.cells #[.int .i64 a0, .int .i64 a1, .int .i64 a2] 46)).cell? ⟨wr.heap.size, 2, none⟩ = some (.int .i64 a2) := (blk_cell HK1.out 2).trans rfl
      by_cases g0 : (0 : Int) < x
      · have e0 : decide ((0 : Int) < x) = true := decide_eq_true g0
        obtain ⟨y, hy⟩ : ∃ y, y = x - 1 := ⟨_, rfl⟩
        have hw2 : wrap64 (x - 1) = y := by unfold wrap64; omega
        have hi0 : 0 ≤ y := by omega
        have hi1 : y < (n3 : Int) := by omega
        have hi2 : decide (y < (n3 : Int)) = true := decide_eq_true hi1
        obtain ⟨b1, hb1⟩ : ∃ a, (rd_T46 ws1 y).f1 = a := ⟨_, rfl⟩
        obtain ⟨b2, hb2⟩ : ∃ a, (rd_T46 ws1 y).f2 = a := ⟨_, rfl⟩
        have HY := Aside0.mk hy
        clear hy
        have HS : Aside0 (∀ V, Below (wr.alloc (.cells #[.int .i64 a0, .int .i64 a1, .int .i64 a2] 46)).heap.size (wr.alloc (.cells #[.int .i64 a0, .int .i64 a1, .int .i64 a2] 46)) V → V.cell? ⟨wr.heap.size, 1, none⟩ = some (.int .i64 a1) ∧ V.cell? ⟨(ax.add (y.toNat * 3)).block, (ax.add (y.toNat * 3)).off + 1, none⟩ = some (.int .i64 b1) ∧ V.cell? ⟨(ax.add (y.toNat * 3)).block, (ax.add (y.toNat * 3)).off + 2, none⟩ = some (.int .i64 b2)) := ⟨by
          intro V hV
          obtain ⟨ad, e, p0, p1, p2⟩ := at_T46 (Kd.C_below H3.out (HB1.out.trans (hV.mono HB1.out.size))) y hi0 hi1
          cases e
          rw [hb1] at p1
          rw [hb2] at p2
          exact ⟨(blk_cell (blk_below HK1.out hV) 1).trans rfl, p1, p2⟩⟩
        have HV1 := Aside0.mk hb1
        have HV2 := Aside0.mk hb2
        clear hb1 hb2
        by_cases t1 : wd a1
        · have C1 : Aside0 (∀ V, Calls Try.prog 63 #[.int .i64 a1] V fun e w' => e = .returned (.bool true) ∧ Drawn0 V w') := ⟨fun V => decide_eq_true t1 ▸ word_calls a1 V⟩
          by_cases t2 : wd b1
          · have C2 : Aside0 (∀ V, Calls Try.prog 63 #[.int .i64 b1] V fun e w' => e = .returned (.bool true) ∧ Drawn0 V w') := ⟨fun V => decide_eq_true t2 ▸ word_calls b1 V⟩
            by_cases t3 : wd b2
            · have C3 : Aside0 (∀ V, Calls Try.prog 63 #[.int .i64 b2] V fun e w' => e = .returned (.bool true) ∧ Drawn0 V w') := ⟨fun V => decide_eq_true t3 ▸ word_calls b2 V⟩
              by_cases g3 : a1 < wrap64 (b1 + b2)
              · have e3 : decide (a1 < wrap64 (b1 + b2)) = true := decide_eq_true g3
                clear t1 t2 t3 g3 HE HA HV1 HV2
                go_upto_region 12 with fail
                refine start_n 35 (fun w' => True) (by kernel_rfl) rfl (by kernel_rfl) trivial (fun hHeld => ?_)
                iterate 3
                  refine pure_n (k' := _) (v := ?_) (a' := ?_) 66 (by simp only [Nat.reduceAdd, Nat.zero_add]; rfl) rfl rfl (by kernel_rfl) (fun _ _ _ h => h) (Or.inl ⟨by rfl, ?_⟩) ?_ ?_
                  rotate_left
                  · intro w'
                    go_simp
                    with_reducible rfl
                  rotate_left
                  · simp only [Act.put, Nat.reduceAdd, List.setIfInBounds_toArray, List.set_cons_zero, List.set_cons_succ, i64_w, i32_w]
                    rfl
                iterate 31
                  refine pure_n (k' := _) (v := undef) (a' := ?_) 66 (by simp only [Nat.reduceAdd, Nat.zero_add]; rfl) rfl rfl (by kernel_rfl) (fun _ _ _ h => h) (Or.inr ⟨by rfl, rfl⟩) ?_ ?_
                  rotate_left
                  · simp only [Act.put, Nat.reduceAdd, List.setIfInBounds_toArray, List.set_cons_zero, List.set_cons_succ, i64_w, i32_w]
                    rfl
                iterate 1
                  refine pure_n (k' := _) (v := ?_) (a' := ?_) 66 (by simp only [Nat.reduceAdd, Nat.zero_add]; rfl) rfl rfl (by kernel_rfl) (fun _ _ _ h => h) (Or.inl ⟨by rfl, ?_⟩) ?_ ?_
                  rotate_left
                  · intro w'
                    go_simp
                    with_reducible rfl
                  rotate_left
                  · simp only [Act.put, Nat.reduceAdd, List.setIfInBounds_toArray, List.set_cons_zero, List.set_cons_succ, i64_w, i32_w]
                    rfl
                refine done_ (by kernel_rfl) ?_
                go_upto_region 14 with fail
                refine start_n 47 (fun w' => w'.cell? ⟨wr.heap.size, 1, none⟩ = some (.int .i64 a1) ∧ w'.cell? ⟨(ax.add (y.toNat * 3)).block, (ax.add (y.toNat * 3)).off + 1, none⟩ = some (.int .i64 b1) ∧ w'.cell? ⟨(ax.add (y.toNat * 3)).block, (ax.add (y.toNat * 3)).off + 2, none⟩ = some (.int .i64 b2)) (by kernel_rfl) rfl (by kernel_rfl) ⟨(HS.out _ (below_drew1 (below_drew1 (Below.refl _ _)))).1, (HS.out _ (below_drew1 (below_drew1 (Below.refl _ _)))).2.1, (HS.out _ (below_drew1 (below_drew1 (Below.refl _ _)))).2.2⟩ (fun hHeld => ?_)
                iterate 8
                  refine pure_n (k' := _) (v := ?_) (a' := ?_) 101 (by simp only [Nat.reduceAdd, Nat.zero_add]; rfl) rfl rfl (by kernel_rfl) (fun _ _ _ h => h) (Or.inl ⟨by rfl, ?_⟩) ?_ ?_
                  rotate_left
                  · intro w'
                    go_simp
                    with_reducible rfl
                  rotate_left
                  · simp only [Act.put, Nat.reduceAdd, List.setIfInBounds_toArray, List.set_cons_zero, List.set_cons_succ, i64_w, i32_w]
                    rfl
                iterate 1
                  refine take_n (k' := _) (v := ?_) (a' := ?_) 101 (by simp only [Nat.reduceAdd, Nat.zero_add]; rfl) rfl rfl (by kernel_rfl) (fun _ _ _ h => h) (Or.inl ⟨by rfl, ?_⟩) hHeld ?_ ?_
                  rotate_left
                  · rintro w' ⟨s0, s1, s2⟩
                    go_simp
                    with_reducible rfl
                  rotate_left
                  · simp only [Act.put, Nat.reduceAdd, List.setIfInBounds_toArray, List.set_cons_zero, List.set_cons_succ, i64_w, i32_w]
                    rfl
                refine one_n (k' := _) 101 (by simp only [Nat.reduceAdd, Nat.zero_add]; rfl) rfl rfl (by kernel_rfl) (by decide) (fun K hK => ?_)
                refine goes_ Try.func63 (by kernel_rfl) rfl #[.int .i64 a1] (by rfl) rfl rfl (by simp only [List.map_toArray, List.map_cons, List.map_nil]; rfl) ?_
                with_reducible refine (C1.out _).mono ?_
                rintro e w9 ⟨rfl, hdr⟩
                refine ⟨_, rfl, ?_⟩
                obtain ⟨nd, hnd⟩ := hdr.out
                have hbd := pw_below_drewN (below_drew1 (below_drew1 (Below.refl (wr.alloc (.cells #[.int .i64 a0, .int .i64 a1, .int .i64 a2] 46)).heap.size (wr.alloc (.cells #[.int .i64 a0, .int .i64 a1, .int .i64 a2] 46))))) nd
                rw [← hnd] at hbd
                have HD9 := Aside0.mk hbd
                clear hdr hnd hbd
                refine hK.out _ _ ⟨(HS.out _ HD9.out).1, (HS.out _ HD9.out).2.1, (HS.out _ HD9.out).2.2⟩ (fun hHeld => ?_)
                clear hK K
                refine norm_ (a' := ?_) ?_ ?_
                rotate_left
                · show Act.put _ (some 110) _ = _
                  simp only [Act.put, Nat.reduceAdd, List.setIfInBounds_toArray, List.set_cons_zero, List.set_cons_succ, i64_w, i32_w]
                  rfl
                iterate 7
                  refine pure_n (k' := _) (v := ?_) (a' := ?_) 101 (by simp only [Nat.reduceAdd, Nat.zero_add]; rfl) rfl rfl (by kernel_rfl) (fun _ _ _ h => h) (Or.inl ⟨by rfl, ?_⟩) ?_ ?_
                  rotate_left
                  · intro w'
                    go_simp
                    with_reducible rfl
                  rotate_left
                  · simp only [Act.put, Nat.reduceAdd, List.setIfInBounds_toArray, List.set_cons_zero, List.set_cons_succ, i64_w, i32_w]
                    rfl
                iterate 1
                  refine take_n (k' := _) (v := ?_) (a' := ?_) 101 (by simp only [Nat.reduceAdd, Nat.zero_add]; rfl) rfl rfl (by kernel_rfl) (fun _ _ _ h => h) (Or.inl ⟨by rfl, ?_⟩) hHeld ?_ ?_
                  rotate_left
                  · rintro w' ⟨s0, s1, s2⟩
                    go_simp
                    with_reducible rfl
                  rotate_left
                  · simp only [Act.put, Nat.reduceAdd, List.setIfInBounds_toArray, List.set_cons_zero, List.set_cons_succ, i64_w, i32_w]
                    rfl
                refine one_n (k' := _) 101 (by simp only [Nat.reduceAdd, Nat.zero_add]; rfl) rfl rfl (by kernel_rfl) (by decide) (fun K hK => ?_)
                refine goes_ Try.func63 (by kernel_rfl) rfl #[.int .i64 b1] (by rfl) rfl rfl (by simp only [List.map_toArray, List.map_cons, List.map_nil]; rfl) ?_
                with_reducible refine (C2.out _).mono ?_
                rintro e w18 ⟨rfl, hdr⟩
                refine ⟨_, rfl, ?_⟩
                obtain ⟨nd, hnd⟩ := hdr.out
                have hbd := pw_below_drewN HD9.out nd
                rw [← hnd] at hbd
                have HD18 := Aside0.mk hbd
                clear hdr hnd hbd
                refine hK.out _ _ ⟨(HS.out _ HD18.out).1, (HS.out _ HD18.out).2.1, (HS.out _ HD18.out).2.2⟩ (fun hHeld => ?_)
                clear hK K
                refine norm_ (a' := ?_) ?_ ?_
                rotate_left
                · show Act.put _ (some 119) _ = _
                  simp only [Act.put, Nat.reduceAdd, List.setIfInBounds_toArray, List.set_cons_zero, List.set_cons_succ, i64_w, i32_w]
                  rfl
                iterate 7
                  refine pure_n (k' := _) (v := ?_) (a' := ?_) 101 (by simp only [Nat.reduceAdd, Nat.zero_add]; rfl) rfl rfl (by kernel_rfl) (fun _ _ _ h => h) (Or.inl ⟨by rfl, ?_⟩) ?_ ?_
                  rotate_left
                  · intro w'
                    go_simp
                    with_reducible rfl
                  rotate_left
                  · simp only [Act.put, Nat.reduceAdd, List.setIfInBounds_toArray, List.set_cons_zero, List.set_cons_succ, i64_w, i32_w]
                    rfl
                iterate 1
                  refine take_n (k' := _) (v := ?_) (a' := ?_) 101 (by simp only [Nat.reduceAdd, Nat.zero_add]; rfl) rfl rfl (by kernel_rfl) (fun _ _ _ h => h) (Or.inl ⟨by rfl, ?_⟩) hHeld ?_ ?_
                  rotate_left
                  · rintro w' ⟨s0, s1, s2⟩
                    go_simp
                    with_reducible rfl
                  rotate_left
                  · simp only [Act.put, Nat.reduceAdd, List.setIfInBounds_toArray, List.set_cons_zero, List.set_cons_succ, i64_w, i32_w]
                    rfl
                refine one_n (k' := _) 101 (by simp only [Nat.reduceAdd, Nat.zero_add]; rfl) rfl rfl (by kernel_rfl) (by decide) (fun K hK => ?_)
                refine goes_ Try.func63 (by kernel_rfl) rfl #[.int .i64 b2] (by rfl) rfl rfl (by simp only [List.map_toArray, List.map_cons, List.map_nil]; rfl) ?_
                with_reducible refine (C3.out _).mono ?_
                rintro e w27 ⟨rfl, hdr⟩
                refine ⟨_, rfl, ?_⟩
                obtain ⟨nd, hnd⟩ := hdr.out
                have hbd := pw_below_drewN HD18.out nd
                rw [← hnd] at hbd
                have HD27 := Aside0.mk hbd
                clear hdr hnd hbd
                refine hK.out _ _ ⟨(HS.out _ HD27.out).1, (HS.out _ HD27.out).2.1, (HS.out _ HD27.out).2.2⟩ (fun hHeld => ?_)
                clear hK K
                refine norm_ (a' := ?_) ?_ ?_
                rotate_left
                · show Act.put _ (some 128) _ = _
                  simp only [Act.put, Nat.reduceAdd, List.setIfInBounds_toArray, List.set_cons_zero, List.set_cons_succ, i64_w, i32_w]
                  rfl
                iterate 3
                  refine pure_n (k' := _) (v := ?_) (a' := ?_) 101 (by simp only [Nat.reduceAdd, Nat.zero_add]; rfl) rfl rfl (by kernel_rfl) (fun _ _ _ h => h) (Or.inl ⟨by rfl, ?_⟩) ?_ ?_
                  rotate_left
                  · intro w'
                    go_simp
                    with_reducible rfl
                  rotate_left
                  · simp only [Act.put, Nat.reduceAdd, List.setIfInBounds_toArray, List.set_cons_zero, List.set_cons_succ, i64_w, i32_w]
                    rfl
                iterate 1
                  refine take_n (k' := _) (v := ?_) (a' := ?_) 101 (by simp only [Nat.reduceAdd, Nat.zero_add]; rfl) rfl rfl (by kernel_rfl) (fun _ _ _ h => h) (Or.inl ⟨by rfl, ?_⟩) hHeld ?_ ?_
                  rotate_left
                  · rintro w' ⟨s0, s1, s2⟩
                    go_simp
                    with_reducible rfl
                  rotate_left
                  · simp only [Act.put, Nat.reduceAdd, List.setIfInBounds_toArray, List.set_cons_zero, List.set_cons_succ, i64_w, i32_w]
                    rfl
                iterate 5
                  refine pure_n (k' := _) (v := ?_) (a' := ?_) 101 (by simp only [Nat.reduceAdd, Nat.zero_add]; rfl) rfl rfl (by kernel_rfl) (fun _ _ _ h => h) (Or.inl ⟨by rfl, ?_⟩) ?_ ?_
                  rotate_left
                  · intro w'
                    go_simp
                    with_reducible rfl
                  rotate_left
                  · simp only [Act.put, Nat.reduceAdd, List.setIfInBounds_toArray, List.set_cons_zero, List.set_cons_succ, i64_w, i32_w]
                    rfl
                iterate 1
                  refine take_n (k' := _) (v := ?_) (a' := ?_) 101 (by simp only [Nat.reduceAdd, Nat.zero_add]; rfl) rfl rfl (by kernel_rfl) (fun _ _ _ h => h) (Or.inl ⟨by rfl, ?_⟩) hHeld ?_ ?_
                  rotate_left
                  · rintro w' ⟨s0, s1, s2⟩
                    go_simp
                    with_reducible rfl
                  rotate_left
                  · simp only [Act.put, Nat.reduceAdd, List.setIfInBounds_toArray, List.set_cons_zero, List.set_cons_succ, i64_w, i32_w]
                    rfl
                iterate 5
                  refine pure_n (k' := _) (v := ?_) (a' := ?_) 101 (by simp only [Nat.reduceAdd, Nat.zero_add]; rfl) rfl rfl (by kernel_rfl) (fun _ _ _ h => h) (Or.inl ⟨by rfl, ?_⟩) ?_ ?_
                  rotate_left
                  · intro w'
                    go_simp
                    with_reducible rfl
                  rotate_left
                  · simp only [Act.put, Nat.reduceAdd, List.setIfInBounds_toArray, List.set_cons_zero, List.set_cons_succ, i64_w, i32_w]
                    rfl
                iterate 1
                  refine take_n (k' := _) (v := ?_) (a' := ?_) 101 (by simp only [Nat.reduceAdd, Nat.zero_add]; rfl) rfl rfl (by kernel_rfl) (fun _ _ _ h => h) (Or.inl ⟨by rfl, ?_⟩) hHeld ?_ ?_
                  rotate_left
                  · rintro w' ⟨s0, s1, s2⟩
                    go_simp
                    with_reducible rfl
                  rotate_left
                  · simp only [Act.put, Nat.reduceAdd, List.setIfInBounds_toArray, List.set_cons_zero, List.set_cons_succ, i64_w, i32_w]
                    rfl
                iterate 3
                  refine pure_n (k' := _) (v := ?_) (a' := ?_) 101 (by simp only [Nat.reduceAdd, Nat.zero_add]; rfl) rfl rfl (by kernel_rfl) (fun _ _ _ h => h) (Or.inl ⟨by rfl, ?_⟩) ?_ ?_
                  rotate_left
                  · intro w'
                    go_simp
                    with_reducible rfl
                  rotate_left
                  · simp only [Act.put, Nat.reduceAdd, List.setIfInBounds_toArray, List.set_cons_zero, List.set_cons_succ, i64_w, i32_w]
                    rfl
                refine done_ (by kernel_rfl) ?_
                have hdr := HD27.out
                have HB2 := Aside0.mk (HB1.out.trans (hdr.mono HB1.out.size))
                clear hdr
                go_wp2
                go_ret
                exact ⟨⟨true, rfl, fun h => by cases h⟩, HB2.out⟩
              · have e3 : decide (a1 < wrap64 (b1 + b2)) = false := decide_eq_false g3
                have HNEW : Aside0 (W16 ws1 x) := ⟨by obtain ⟨q0, q1, q2⟩ := HE.out; unfold W16; rw [← HY.out, q1, HV1.out, HV2.out]; exact fun _ _ _ _ => Int.not_lt.mp g3⟩
                clear t1 t2 t3 g3 HV1 HV2
                have HA2 := Aside0.mk (allTo_succ HA.out HNEW.out)
                clear HNEW HE HA
                go_upto_region 12 with fail
                refine start_n 35 (fun w' => True) (by kernel_rfl) rfl (by kernel_rfl) trivial (fun hHeld => ?_)
                iterate 3
                  refine pure_n (k' := _) (v := ?_) (a' := ?_) 66 (by simp only [Nat.reduceAdd, Nat.zero_add]; rfl) rfl rfl (by kernel_rfl) (fun _ _ _ h => h) (Or.inl ⟨by rfl, ?_⟩) ?_ ?_
                  rotate_left
                  · intro w'
                    go_simp
                    with_reducible rfl
                  rotate_left
                  · simp only [Act.put, Nat.reduceAdd, List.setIfInBounds_toArray, List.set_cons_zero, List.set_cons_succ, i64_w, i32_w]
                    rfl
                iterate 31
                  refine pure_n (k' := _) (v := undef) (a' := ?_) 66 (by simp only [Nat.reduceAdd, Nat.zero_add]; rfl) rfl rfl (by kernel_rfl) (fun _ _ _ h => h) (Or.inr ⟨by rfl, rfl⟩) ?_ ?_
                  rotate_left
                  · simp only [Act.put, Nat.reduceAdd, List.setIfInBounds_toArray, List.set_cons_zero, List.set_cons_succ, i64_w, i32_w]
                    rfl
                iterate 1
                  refine pure_n (k' := _) (v := ?_) (a' := ?_) 66 (by simp only [Nat.reduceAdd, Nat.zero_add]; rfl) rfl rfl (by kernel_rfl) (fun _ _ _ h => h) (Or.inl ⟨by rfl, ?_⟩) ?_ ?_
                  rotate_left
                  · intro w'
                    go_simp
                    with_reducible rfl
                  rotate_left
                  · simp only [Act.put, Nat.reduceAdd, List.setIfInBounds_toArray, List.set_cons_zero, List.set_cons_succ, i64_w, i32_w]
                    rfl
                refine done_ (by kernel_rfl) ?_
                go_upto_region 14 with fail
                refine start_n 47 (fun w' => w'.cell? ⟨wr.heap.size, 1, none⟩ = some (.int .i64 a1) ∧ w'.cell? ⟨(ax.add (y.toNat * 3)).block, (ax.add (y.toNat * 3)).off + 1, none⟩ = some (.int .i64 b1) ∧ w'.cell? ⟨(ax.add (y.toNat * 3)).block, (ax.add (y.toNat * 3)).off + 2, none⟩ = some (.int .i64 b2)) (by kernel_rfl) rfl (by kernel_rfl) ⟨(HS.out _ (below_drew1 (below_drew1 (Below.refl _ _)))).1, (HS.out _ (below_drew1 (below_drew1 (Below.refl _ _)))).2.1, (HS.out _ (below_drew1 (below_drew1 (Below.refl _ _)))).2.2⟩ (fun hHeld => ?_)
                iterate 8
                  refine pure_n (k' := _) (v := ?_) (a' := ?_) 101 (by simp only [Nat.reduceAdd, Nat.zero_add]; rfl) rfl rfl (by kernel_rfl) (fun _ _ _ h => h) (Or.inl ⟨by rfl, ?_⟩) ?_ ?_
                  rotate_left
                  · intro w'
                    go_simp
                    with_reducible rfl
                  rotate_left
                  · simp only [Act.put, Nat.reduceAdd, List.setIfInBounds_toArray, List.set_cons_zero, List.set_cons_succ, i64_w, i32_w]
                    rfl
                iterate 1
                  refine take_n (k' := _) (v := ?_) (a' := ?_) 101 (by simp only [Nat.reduceAdd, Nat.zero_add]; rfl) rfl rfl (by kernel_rfl) (fun _ _ _ h => h) (Or.inl ⟨by rfl, ?_⟩) hHeld ?_ ?_
                  rotate_left
                  · rintro w' ⟨s0, s1, s2⟩
                    go_simp
                    with_reducible rfl
                  rotate_left
                  · simp only [Act.put, Nat.reduceAdd, List.setIfInBounds_toArray, List.set_cons_zero, List.set_cons_succ, i64_w, i32_w]
                    rfl
                refine one_n (k' := _) 101 (by simp only [Nat.reduceAdd, Nat.zero_add]; rfl) rfl rfl (by kernel_rfl) (by decide) (fun K hK => ?_)
                refine goes_ Try.func63 (by kernel_rfl) rfl #[.int .i64 a1] (by rfl) rfl rfl (by simp only [List.map_toArray, List.map_cons, List.map_nil]; rfl) ?_
                with_reducible refine (C1.out _).mono ?_
                rintro e w9 ⟨rfl, hdr⟩
                refine ⟨_, rfl, ?_⟩
                obtain ⟨nd, hnd⟩ := hdr.out
                have hbd := pw_below_drewN (below_drew1 (below_drew1 (Below.refl (wr.alloc (.cells #[.int .i64 a0, .int .i64 a1, .int .i64 a2] 46)).heap.size (wr.alloc (.cells #[.int .i64 a0, .int .i64 a1, .int .i64 a2] 46))))) nd
                rw [← hnd] at hbd
                have HD9 := Aside0.mk hbd
                clear hdr hnd hbd
                refine hK.out _ _ ⟨(HS.out _ HD9.out).1, (HS.out _ HD9.out).2.1, (HS.out _ HD9.out).2.2⟩ (fun hHeld => ?_)
                clear hK K
                refine norm_ (a' := ?_) ?_ ?_
                rotate_left
                · show Act.put _ (some 110) _ = _
                  simp only [Act.put, Nat.reduceAdd, List.setIfInBounds_toArray, List.set_cons_zero, List.set_cons_succ, i64_w, i32_w]
                  rfl
                iterate 7
                  refine pure_n (k' := _) (v := ?_) (a' := ?_) 101 (by simp only [Nat.reduceAdd, Nat.zero_add]; rfl) rfl rfl (by kernel_rfl) (fun _ _ _ h => h) (Or.inl ⟨by rfl, ?_⟩) ?_ ?_
                  rotate_left
                  · intro w'
                    go_simp
                    with_reducible rfl
                  rotate_left
                  · simp only [Act.put, Nat.reduceAdd, List.setIfInBounds_toArray, List.set_cons_zero, List.set_cons_succ, i64_w, i32_w]
                    rfl
                iterate 1
                  refine take_n (k' := _) (v := ?_) (a' := ?_) 101 (by simp only [Nat.reduceAdd, Nat.zero_add]; rfl) rfl rfl (by kernel_rfl) (fun _ _ _ h => h) (Or.inl ⟨by rfl, ?_⟩) hHeld ?_ ?_
                  rotate_left
                  · rintro w' ⟨s0, s1, s2⟩
                    go_simp
                    with_reducible rfl
                  rotate_left
                  · simp only [Act.put, Nat.reduceAdd, List.setIfInBounds_toArray, List.set_cons_zero, List.set_cons_succ, i64_w, i32_w]
                    rfl
                refine one_n (k' := _) 101 (by simp only [Nat.reduceAdd, Nat.zero_add]; rfl) rfl rfl (by kernel_rfl) (by decide) (fun K hK => ?_)
                refine goes_ Try.func63 (by kernel_rfl) rfl #[.int .i64 b1] (by rfl) rfl rfl (by simp only [List.map_toArray, List.map_cons, List.map_nil]; rfl) ?_
                with_reducible refine (C2.out _).mono ?_
                rintro e w18 ⟨rfl, hdr⟩
                refine ⟨_, rfl, ?_⟩
                obtain ⟨nd, hnd⟩ := hdr.out
                have hbd := pw_below_drewN HD9.out nd
                rw [← hnd] at hbd
                have HD18 := Aside0.mk hbd
                clear hdr hnd hbd
                refine hK.out _ _ ⟨(HS.out _ HD18.out).1, (HS.out _ HD18.out).2.1, (HS.out _ HD18.out).2.2⟩ (fun hHeld => ?_)
                clear hK K
                refine norm_ (a' := ?_) ?_ ?_
                rotate_left
                · show Act.put _ (some 119) _ = _
                  simp only [Act.put, Nat.reduceAdd, List.setIfInBounds_toArray, List.set_cons_zero, List.set_cons_succ, i64_w, i32_w]
                  rfl
                iterate 7
                  refine pure_n (k' := _) (v := ?_) (a' := ?_) 101 (by simp only [Nat.reduceAdd, Nat.zero_add]; rfl) rfl rfl (by kernel_rfl) (fun _ _ _ h => h) (Or.inl ⟨by rfl, ?_⟩) ?_ ?_
                  rotate_left
                  · intro w'
                    go_simp
                    with_reducible rfl
                  rotate_left
                  · simp only [Act.put, Nat.reduceAdd, List.setIfInBounds_toArray, List.set_cons_zero, List.set_cons_succ, i64_w, i32_w]
                    rfl
                iterate 1
                  refine take_n (k' := _) (v := ?_) (a' := ?_) 101 (by simp only [Nat.reduceAdd, Nat.zero_add]; rfl) rfl rfl (by kernel_rfl) (fun _ _ _ h => h) (Or.inl ⟨by rfl, ?_⟩) hHeld ?_ ?_
                  rotate_left
                  · rintro w' ⟨s0, s1, s2⟩
                    go_simp
                    with_reducible rfl
                  rotate_left
                  · simp only [Act.put, Nat.reduceAdd, List.setIfInBounds_toArray, List.set_cons_zero, List.set_cons_succ, i64_w, i32_w]
                    rfl
                refine one_n (k' := _) 101 (by simp only [Nat.reduceAdd, Nat.zero_add]; rfl) rfl rfl (by kernel_rfl) (by decide) (fun K hK => ?_)
                refine goes_ Try.func63 (by kernel_rfl) rfl #[.int .i64 b2] (by rfl) rfl rfl (by simp only [List.map_toArray, List.map_cons, List.map_nil]; rfl) ?_
                with_reducible refine (C3.out _).mono ?_
                rintro e w27 ⟨rfl, hdr⟩
                refine ⟨_, rfl, ?_⟩
                obtain ⟨nd, hnd⟩ := hdr.out
                have hbd := pw_below_drewN HD18.out nd
                rw [← hnd] at hbd
                have HD27 := Aside0.mk hbd
                clear hdr hnd hbd
                refine hK.out _ _ ⟨(HS.out _ HD27.out).1, (HS.out _ HD27.out).2.1, (HS.out _ HD27.out).2.2⟩ (fun hHeld => ?_)
                clear hK K
                refine norm_ (a' := ?_) ?_ ?_
                rotate_left
                · show Act.put _ (some 128) _ = _
                  simp only [Act.put, Nat.reduceAdd, List.setIfInBounds_toArray, List.set_cons_zero, List.set_cons_succ, i64_w, i32_w]
                  rfl
                iterate 3
                  refine pure_n (k' := _) (v := ?_) (a' := ?_) 101 (by simp only [Nat.reduceAdd, Nat.zero_add]; rfl) rfl rfl (by kernel_rfl) (fun _ _ _ h => h) (Or.inl ⟨by rfl, ?_⟩) ?_ ?_
                  rotate_left
                  · intro w'
                    go_simp
                    with_reducible rfl
                  rotate_left
                  · simp only [Act.put, Nat.reduceAdd, List.setIfInBounds_toArray, List.set_cons_zero, List.set_cons_succ, i64_w, i32_w]
                    rfl
                iterate 1
                  refine take_n (k' := _) (v := ?_) (a' := ?_) 101 (by simp only [Nat.reduceAdd, Nat.zero_add]; rfl) rfl rfl (by kernel_rfl) (fun _ _ _ h => h) (Or.inl ⟨by rfl, ?_⟩) hHeld ?_ ?_
                  rotate_left
                  · rintro w' ⟨s0, s1, s2⟩
                    go_simp
                    with_reducible rfl
                  rotate_left
                  · simp only [Act.put, Nat.reduceAdd, List.setIfInBounds_toArray, List.set_cons_zero, List.set_cons_succ, i64_w, i32_w]
                    rfl
                iterate 5
                  refine pure_n (k' := _) (v := ?_) (a' := ?_) 101 (by simp only [Nat.reduceAdd, Nat.zero_add]; rfl) rfl rfl (by kernel_rfl) (fun _ _ _ h => h) (Or.inl ⟨by rfl, ?_⟩) ?_ ?_
                  rotate_left
                  · intro w'
                    go_simp
                    with_reducible rfl
                  rotate_left
                  · simp only [Act.put, Nat.reduceAdd, List.setIfInBounds_toArray, List.set_cons_zero, List.set_cons_succ, i64_w, i32_w]
                    rfl
                iterate 1
                  refine take_n (k' := _) (v := ?_) (a' := ?_) 101 (by simp only [Nat.reduceAdd, Nat.zero_add]; rfl) rfl rfl (by kernel_rfl) (fun _ _ _ h => h) (Or.inl ⟨by rfl, ?_⟩) hHeld ?_ ?_
                  rotate_left
                  · rintro w' ⟨s0, s1, s2⟩
                    go_simp
                    with_reducible rfl
                  rotate_left
                  · simp only [Act.put, Nat.reduceAdd, List.setIfInBounds_toArray, List.set_cons_zero, List.set_cons_succ, i64_w, i32_w]
                    rfl
                iterate 5
                  refine pure_n (k' := _) (v := ?_) (a' := ?_) 101 (by simp only [Nat.reduceAdd, Nat.zero_add]; rfl) rfl rfl (by kernel_rfl) (fun _ _ _ h => h) (Or.inl ⟨by rfl, ?_⟩) ?_ ?_
                  rotate_left
                  · intro w'
                    go_simp
                    with_reducible rfl
                  rotate_left
                  · simp only [Act.put, Nat.reduceAdd, List.setIfInBounds_toArray, List.set_cons_zero, List.set_cons_succ, i64_w, i32_w]
                    rfl
                iterate 1
                  refine take_n (k' := _) (v := ?_) (a' := ?_) 101 (by simp only [Nat.reduceAdd, Nat.zero_add]; rfl) rfl rfl (by kernel_rfl) (fun _ _ _ h => h) (Or.inl ⟨by rfl, ?_⟩) hHeld ?_ ?_
                  rotate_left
                  · rintro w' ⟨s0, s1, s2⟩
                    go_simp
                    with_reducible rfl
                  rotate_left
                  · simp only [Act.put, Nat.reduceAdd, List.setIfInBounds_toArray, List.set_cons_zero, List.set_cons_succ, i64_w, i32_w]
                    rfl
                iterate 3
                  refine pure_n (k' := _) (v := ?_) (a' := ?_) 101 (by simp only [Nat.reduceAdd, Nat.zero_add]; rfl) rfl rfl (by kernel_rfl) (fun _ _ _ h => h) (Or.inl ⟨by rfl, ?_⟩) ?_ ?_
                  rotate_left
                  · intro w'
                    go_simp
                    with_reducible rfl
                  rotate_left
                  · simp only [Act.put, Nat.reduceAdd, List.setIfInBounds_toArray, List.set_cons_zero, List.set_cons_succ, i64_w, i32_w]
                    rfl
                refine done_ (by kernel_rfl) ?_
                have hdr := HD27.out
                have HB5 := Aside0.mk (HB1.out.trans (hdr.mono HB1.out.size))
                have HG5 := Aside0.mk (blk_below HG1.out hdr)
                clear hdr
                go_wp2
                go_roundw
                case rel => exact ⟨x + 1, by omega, by omega, by go_num, HG5, HB5, HA2⟩
                case measure => simp [intOf]; omega
            · have C3 : Aside0 (∀ V, Calls Try.prog 63 #[.int .i64 b2] V fun e w' => e = .returned (.bool false) ∧ Drawn0 V w') := ⟨fun V => decide_eq_false t3 ▸ word_calls b2 V⟩
              have HNEW : Aside0 (W16 ws1 x) := ⟨by obtain ⟨q0, q1, q2⟩ := HE.out; unfold W16; rw [← HY.out, q1, HV1.out, HV2.out]; exact fun _ _ _ h => absurd h t3⟩
              clear t1 t2 t3 HV1 HV2
              have HA2 := Aside0.mk (allTo_succ HA.out HNEW.out)
              clear HNEW HE HA
              go_upto_region 12 with fail
              refine start_n 35 (fun w' => True) (by kernel_rfl) rfl (by kernel_rfl) trivial (fun hHeld => ?_)
              iterate 3
                refine pure_n (k' := _) (v := ?_) (a' := ?_) 66 (by simp only [Nat.reduceAdd, Nat.zero_add]; rfl) rfl rfl (by kernel_rfl) (fun _ _ _ h => h) (Or.inl ⟨by rfl, ?_⟩) ?_ ?_
                rotate_left
                · intro w'
                  go_simp
                  with_reducible rfl
                rotate_left
                · simp only [Act.put, Nat.reduceAdd, List.setIfInBounds_toArray, List.set_cons_zero, List.set_cons_succ, i64_w, i32_w]
                  rfl
              iterate 31
                refine pure_n (k' := _) (v := undef) (a' := ?_) 66 (by simp only [Nat.reduceAdd, Nat.zero_add]; rfl) rfl rfl (by kernel_rfl) (fun _ _ _ h => h) (Or.inr ⟨by rfl, rfl⟩) ?_ ?_
                rotate_left
                · simp only [Act.put, Nat.reduceAdd, List.setIfInBounds_toArray, List.set_cons_zero, List.set_cons_succ, i64_w, i32_w]
                  rfl
              iterate 1
                refine pure_n (k' := _) (v := ?_) (a' := ?_) 66 (by simp only [Nat.reduceAdd, Nat.zero_add]; rfl) rfl rfl (by kernel_rfl) (fun _ _ _ h => h) (Or.inl ⟨by rfl, ?_⟩) ?_ ?_
                rotate_left
                · intro w'
                  go_simp
                  with_reducible rfl
                rotate_left
                · simp only [Act.put, Nat.reduceAdd, List.setIfInBounds_toArray, List.set_cons_zero, List.set_cons_succ, i64_w, i32_w]
                  rfl
              refine done_ (by kernel_rfl) ?_
              go_upto_region 14 with fail
              refine start_n 47 (fun w' => w'.cell? ⟨wr.heap.size, 1, none⟩ = some (.int .i64 a1) ∧ w'.cell? ⟨(ax.add (y.toNat * 3)).block, (ax.add (y.toNat * 3)).off + 1, none⟩ = some (.int .i64 b1) ∧ w'.cell? ⟨(ax.add (y.toNat * 3)).block, (ax.add (y.toNat * 3)).off + 2, none⟩ = some (.int .i64 b2)) (by kernel_rfl) rfl (by kernel_rfl) ⟨(HS.out _ (below_drew1 (below_drew1 (Below.refl _ _)))).1, (HS.out _ (below_drew1 (below_drew1 (Below.refl _ _)))).2.1, (HS.out _ (below_drew1 (below_drew1 (Below.refl _ _)))).2.2⟩ (fun hHeld => ?_)
              iterate 8
                refine pure_n (k' := _) (v := ?_) (a' := ?_) 101 (by simp only [Nat.reduceAdd, Nat.zero_add]; rfl) rfl rfl (by kernel_rfl) (fun _ _ _ h => h) (Or.inl ⟨by rfl, ?_⟩) ?_ ?_
                rotate_left
                · intro w'
                  go_simp
                  with_reducible rfl
                rotate_left
                · simp only [Act.put, Nat.reduceAdd, List.setIfInBounds_toArray, List.set_cons_zero, List.set_cons_succ, i64_w, i32_w]
                  rfl
              iterate 1
                refine take_n (k' := _) (v := ?_) (a' := ?_) 101 (by simp only [Nat.reduceAdd, Nat.zero_add]; rfl) rfl rfl (by kernel_rfl) (fun _ _ _ h => h) (Or.inl ⟨by rfl, ?_⟩) hHeld ?_ ?_
                rotate_left
                · rintro w' ⟨s0, s1, s2⟩
                  go_simp
                  with_reducible rfl
                rotate_left
                · simp only [Act.put, Nat.reduceAdd, List.setIfInBounds_toArray, List.set_cons_zero, List.set_cons_succ, i64_w, i32_w]
                  rfl
              refine one_n (k' := _) 101 (by simp only [Nat.reduceAdd, Nat.zero_add]; rfl) rfl rfl (by kernel_rfl) (by decide) (fun K hK => ?_)
              refine goes_ Try.func63 (by kernel_rfl) rfl #[.int .i64 a1] (by rfl) rfl rfl (by simp only [List.map_toArray, List.map_cons, List.map_nil]; rfl) ?_
              with_reducible refine (C1.out _).mono ?_
              rintro e w9 ⟨rfl, hdr⟩
              refine ⟨_, rfl, ?_⟩
              obtain ⟨nd, hnd⟩ := hdr.out
              have hbd := pw_below_drewN (below_drew1 (below_drew1 (Below.refl (wr.alloc (.cells #[.int .i64 a0, .int .i64 a1, .int .i64 a2] 46)).heap.size (wr.alloc (.cells #[.int .i64 a0, .int .i64 a1, .int .i64 a2] 46))))) nd
              rw [← hnd] at hbd
              have HD9 := Aside0.mk hbd
              clear hdr hnd hbd
              refine hK.out _ _ ⟨(HS.out _ HD9.out).1, (HS.out _ HD9.out).2.1, (HS.out _ HD9.out).2.2⟩ (fun hHeld => ?_)
              clear hK K
              refine norm_ (a' := ?_) ?_ ?_
              rotate_left
              · show Act.put _ (some 110) _ = _
                simp only [Act.put, Nat.reduceAdd, List.setIfInBounds_toArray, List.set_cons_zero, List.set_cons_succ, i64_w, i32_w]
                rfl
              iterate 7
                refine pure_n (k' := _) (v := ?_) (a' := ?_) 101 (by simp only [Nat.reduceAdd, Nat.zero_add]; rfl) rfl rfl (by kernel_rfl) (fun _ _ _ h => h) (Or.inl ⟨by rfl, ?_⟩) ?_ ?_
                rotate_left
                · intro w'
                  go_simp
                  with_reducible rfl
                rotate_left
                · simp only [Act.put, Nat.reduceAdd, List.setIfInBounds_toArray, List.set_cons_zero, List.set_cons_succ, i64_w, i32_w]
                  rfl
              iterate 1
                refine take_n (k' := _) (v := ?_) (a' := ?_) 101 (by simp only [Nat.reduceAdd, Nat.zero_add]; rfl) rfl rfl (by kernel_rfl) (fun _ _ _ h => h) (Or.inl ⟨by rfl, ?_⟩) hHeld ?_ ?_
                rotate_left
                · rintro w' ⟨s0, s1, s2⟩
                  go_simp
                  with_reducible rfl
                rotate_left
                · simp only [Act.put, Nat.reduceAdd, List.setIfInBounds_toArray, List.set_cons_zero, List.set_cons_succ, i64_w, i32_w]
                  rfl
              refine one_n (k' := _) 101 (by simp only [Nat.reduceAdd, Nat.zero_add]; rfl) rfl rfl (by kernel_rfl) (by decide) (fun K hK => ?_)
              refine goes_ Try.func63 (by kernel_rfl) rfl #[.int .i64 b1] (by rfl) rfl rfl (by simp only [List.map_toArray, List.map_cons, List.map_nil]; rfl) ?_
              with_reducible refine (C2.out _).mono ?_
              rintro e w18 ⟨rfl, hdr⟩
              refine ⟨_, rfl, ?_⟩
              obtain ⟨nd, hnd⟩ := hdr.out
              have hbd := pw_below_drewN HD9.out nd
              rw [← hnd] at hbd
              have HD18 := Aside0.mk hbd
              clear hdr hnd hbd
              refine hK.out _ _ ⟨(HS.out _ HD18.out).1, (HS.out _ HD18.out).2.1, (HS.out _ HD18.out).2.2⟩ (fun hHeld => ?_)
              clear hK K
              refine norm_ (a' := ?_) ?_ ?_
              rotate_left
              · show Act.put _ (some 119) _ = _
                simp only [Act.put, Nat.reduceAdd, List.setIfInBounds_toArray, List.set_cons_zero, List.set_cons_succ, i64_w, i32_w]
                rfl
              iterate 7
                refine pure_n (k' := _) (v := ?_) (a' := ?_) 101 (by simp only [Nat.reduceAdd, Nat.zero_add]; rfl) rfl rfl (by kernel_rfl) (fun _ _ _ h => h) (Or.inl ⟨by rfl, ?_⟩) ?_ ?_
                rotate_left
                · intro w'
                  go_simp
                  with_reducible rfl
                rotate_left
                · simp only [Act.put, Nat.reduceAdd, List.setIfInBounds_toArray, List.set_cons_zero, List.set_cons_succ, i64_w, i32_w]
                  rfl
              iterate 1
                refine take_n (k' := _) (v := ?_) (a' := ?_) 101 (by simp only [Nat.reduceAdd, Nat.zero_add]; rfl) rfl rfl (by kernel_rfl) (fun _ _ _ h => h) (Or.inl ⟨by rfl, ?_⟩) hHeld ?_ ?_
                rotate_left
                · rintro w' ⟨s0, s1, s2⟩
                  go_simp
                  with_reducible rfl
                rotate_left
                · simp only [Act.put, Nat.reduceAdd, List.setIfInBounds_toArray, List.set_cons_zero, List.set_cons_succ, i64_w, i32_w]
                  rfl
              refine one_n (k' := _) 101 (by simp only [Nat.reduceAdd, Nat.zero_add]; rfl) rfl rfl (by kernel_rfl) (by decide) (fun K hK => ?_)
              refine goes_ Try.func63 (by kernel_rfl) rfl #[.int .i64 b2] (by rfl) rfl rfl (by simp only [List.map_toArray, List.map_cons, List.map_nil]; rfl) ?_
              with_reducible refine (C3.out _).mono ?_
              rintro e w27 ⟨rfl, hdr⟩
              refine ⟨_, rfl, ?_⟩
              obtain ⟨nd, hnd⟩ := hdr.out
              have hbd := pw_below_drewN HD18.out nd
              rw [← hnd] at hbd
              have HD27 := Aside0.mk hbd
              clear hdr hnd hbd
              refine hK.out _ _ ⟨(HS.out _ HD27.out).1, (HS.out _ HD27.out).2.1, (HS.out _ HD27.out).2.2⟩ (fun hHeld => ?_)
              clear hK K
              refine norm_ (a' := ?_) ?_ ?_
              rotate_left
              · show Act.put _ (some 128) _ = _
                simp only [Act.put, Nat.reduceAdd, List.setIfInBounds_toArray, List.set_cons_zero, List.set_cons_succ, i64_w, i32_w]
                rfl
              iterate 2
                refine pure_n (k' := _) (v := ?_) (a' := ?_) 101 (by simp only [Nat.reduceAdd, Nat.zero_add]; rfl) rfl rfl (by kernel_rfl) (fun _ _ _ h => h) (Or.inl ⟨by rfl, ?_⟩) ?_ ?_
                rotate_left
                · intro w'
                  go_simp
                  with_reducible rfl
                rotate_left
                · simp only [Act.put, Nat.reduceAdd, List.setIfInBounds_toArray, List.set_cons_zero, List.set_cons_succ, i64_w, i32_w]
                  rfl
              iterate 16
                refine pure_n (k' := _) (v := undef) (a' := ?_) 101 (by simp only [Nat.reduceAdd, Nat.zero_add]; rfl) rfl rfl (by kernel_rfl) (fun _ _ _ h => h) (Or.inr ⟨by rfl, rfl⟩) ?_ ?_
                rotate_left
                · simp only [Act.put, Nat.reduceAdd, List.setIfInBounds_toArray, List.set_cons_zero, List.set_cons_succ, i64_w, i32_w]
                  rfl
              iterate 1
                refine pure_n (k' := _) (v := ?_) (a' := ?_) 101 (by simp only [Nat.reduceAdd, Nat.zero_add]; rfl) rfl rfl (by kernel_rfl) (fun _ _ _ h => h) (Or.inl ⟨by rfl, ?_⟩) ?_ ?_
                rotate_left
                · intro w'
                  go_simp
                  with_reducible rfl
                rotate_left
                · simp only [Act.put, Nat.reduceAdd, List.setIfInBounds_toArray, List.set_cons_zero, List.set_cons_succ, i64_w, i32_w]
                  rfl
              refine done_ (by kernel_rfl) ?_
              have hdr := HD27.out
              have HB5 := Aside0.mk (HB1.out.trans (hdr.mono HB1.out.size))
              have HG5 := Aside0.mk (blk_below HG1.out hdr)
              clear hdr
              go_wp2
              go_roundw
              case rel => exact ⟨x + 1, by omega, by omega, by go_num, HG5, HB5, HA2⟩
              case measure => simp [intOf]; omega
          · have C2 : Aside0 (∀ V, Calls Try.prog 63 #[.int .i64 b1] V fun e w' => e = .returned (.bool false) ∧ Drawn0 V w') := ⟨fun V => decide_eq_false t2 ▸ word_calls b1 V⟩
            have HNEW : Aside0 (W16 ws1 x) := ⟨by obtain ⟨q0, q1, q2⟩ := HE.out; unfold W16; rw [← HY.out, q1, HV1.out, HV2.out]; exact fun _ _ h => absurd h t2⟩
            clear t1 t2 HV1 HV2
            have HA2 := Aside0.mk (allTo_succ HA.out HNEW.out)
            clear HNEW HE HA
            go_upto_region 12 with fail
            refine start_n 35 (fun w' => True) (by kernel_rfl) rfl (by kernel_rfl) trivial (fun hHeld => ?_)
            iterate 3
              refine pure_n (k' := _) (v := ?_) (a' := ?_) 66 (by simp only [Nat.reduceAdd, Nat.zero_add]; rfl) rfl rfl (by kernel_rfl) (fun _ _ _ h => h) (Or.inl ⟨by rfl, ?_⟩) ?_ ?_
              rotate_left
              · intro w'
                go_simp
                with_reducible rfl
              rotate_left
              · simp only [Act.put, Nat.reduceAdd, List.setIfInBounds_toArray, List.set_cons_zero, List.set_cons_succ, i64_w, i32_w]
                rfl
            iterate 31
              refine pure_n (k' := _) (v := undef) (a' := ?_) 66 (by simp only [Nat.reduceAdd, Nat.zero_add]; rfl) rfl rfl (by kernel_rfl) (fun _ _ _ h => h) (Or.inr ⟨by rfl, rfl⟩) ?_ ?_
              rotate_left
              · simp only [Act.put, Nat.reduceAdd, List.setIfInBounds_toArray, List.set_cons_zero, List.set_cons_succ, i64_w, i32_w]
                rfl
            iterate 1
              refine pure_n (k' := _) (v := ?_) (a' := ?_) 66 (by simp only [Nat.reduceAdd, Nat.zero_add]; rfl) rfl rfl (by kernel_rfl) (fun _ _ _ h => h) (Or.inl ⟨by rfl, ?_⟩) ?_ ?_
              rotate_left
              · intro w'
                go_simp
                with_reducible rfl
              rotate_left
              · simp only [Act.put, Nat.reduceAdd, List.setIfInBounds_toArray, List.set_cons_zero, List.set_cons_succ, i64_w, i32_w]
                rfl
            refine done_ (by kernel_rfl) ?_
            go_upto_region 14 with fail
            refine start_n 47 (fun w' => w'.cell? ⟨wr.heap.size, 1, none⟩ = some (.int .i64 a1) ∧ w'.cell? ⟨(ax.add (y.toNat * 3)).block, (ax.add (y.toNat * 3)).off + 1, none⟩ = some (.int .i64 b1) ∧ w'.cell? ⟨(ax.add (y.toNat * 3)).block, (ax.add (y.toNat * 3)).off + 2, none⟩ = some (.int .i64 b2)) (by kernel_rfl) rfl (by kernel_rfl) ⟨(HS.out _ (below_drew1 (below_drew1 (Below.refl _ _)))).1, (HS.out _ (below_drew1 (below_drew1 (Below.refl _ _)))).2.1, (HS.out _ (below_drew1 (below_drew1 (Below.refl _ _)))).2.2⟩ (fun hHeld => ?_)
            iterate 8
              refine pure_n (k' := _) (v := ?_) (a' := ?_) 101 (by simp only [Nat.reduceAdd, Nat.zero_add]; rfl) rfl rfl (by kernel_rfl) (fun _ _ _ h => h) (Or.inl ⟨by rfl, ?_⟩) ?_ ?_
              rotate_left
              · intro w'
                go_simp
                with_reducible rfl
              rotate_left
              · simp only [Act.put, Nat.reduceAdd, List.setIfInBounds_toArray, List.set_cons_zero, List.set_cons_succ, i64_w, i32_w]
                rfl
            iterate 1
              refine take_n (k' := _) (v := ?_) (a' := ?_) 101 (by simp only [Nat.reduceAdd, Nat.zero_add]; rfl) rfl rfl (by kernel_rfl) (fun _ _ _ h => h) (Or.inl ⟨by rfl, ?_⟩) hHeld ?_ ?_
              rotate_left
              · rintro w' ⟨s0, s1, s2⟩
                go_simp
                with_reducible rfl
              rotate_left
              · simp only [Act.put, Nat.reduceAdd, List.setIfInBounds_toArray, List.set_cons_zero, List.set_cons_succ, i64_w, i32_w]
                rfl
            refine one_n (k' := _) 101 (by simp only [Nat.reduceAdd, Nat.zero_add]; rfl) rfl rfl (by kernel_rfl) (by decide) (fun K hK => ?_)
            refine goes_ Try.func63 (by kernel_rfl) rfl #[.int .i64 a1] (by rfl) rfl rfl (by simp only [List.map_toArray, List.map_cons, List.map_nil]; rfl) ?_
            with_reducible refine (C1.out _).mono ?_
            rintro e w9 ⟨rfl, hdr⟩
            refine ⟨_, rfl, ?_⟩
            obtain ⟨nd, hnd⟩ := hdr.out
            have hbd := pw_below_drewN (below_drew1 (below_drew1 (Below.refl (wr.alloc (.cells #[.int .i64 a0, .int .i64 a1, .int .i64 a2] 46)).heap.size (wr.alloc (.cells #[.int .i64 a0, .int .i64 a1, .int .i64 a2] 46))))) nd
            rw [← hnd] at hbd
            have HD9 := Aside0.mk hbd
            clear hdr hnd hbd
            refine hK.out _ _ ⟨(HS.out _ HD9.out).1, (HS.out _ HD9.out).2.1, (HS.out _ HD9.out).2.2⟩ (fun hHeld => ?_)
            clear hK K
            refine norm_ (a' := ?_) ?_ ?_
            rotate_left
            · show Act.put _ (some 110) _ = _
              simp only [Act.put, Nat.reduceAdd, List.setIfInBounds_toArray, List.set_cons_zero, List.set_cons_succ, i64_w, i32_w]
              rfl
            iterate 7
              refine pure_n (k' := _) (v := ?_) (a' := ?_) 101 (by simp only [Nat.reduceAdd, Nat.zero_add]; rfl) rfl rfl (by kernel_rfl) (fun _ _ _ h => h) (Or.inl ⟨by rfl, ?_⟩) ?_ ?_
              rotate_left
              · intro w'
                go_simp
                with_reducible rfl
              rotate_left
              · simp only [Act.put, Nat.reduceAdd, List.setIfInBounds_toArray, List.set_cons_zero, List.set_cons_succ, i64_w, i32_w]
                rfl
            iterate 1
              refine take_n (k' := _) (v := ?_) (a' := ?_) 101 (by simp only [Nat.reduceAdd, Nat.zero_add]; rfl) rfl rfl (by kernel_rfl) (fun _ _ _ h => h) (Or.inl ⟨by rfl, ?_⟩) hHeld ?_ ?_
              rotate_left
              · rintro w' ⟨s0, s1, s2⟩
                go_simp
                with_reducible rfl
              rotate_left
              · simp only [Act.put, Nat.reduceAdd, List.setIfInBounds_toArray, List.set_cons_zero, List.set_cons_succ, i64_w, i32_w]
                rfl
            refine one_n (k' := _) 101 (by simp only [Nat.reduceAdd, Nat.zero_add]; rfl) rfl rfl (by kernel_rfl) (by decide) (fun K hK => ?_)
            refine goes_ Try.func63 (by kernel_rfl) rfl #[.int .i64 b1] (by rfl) rfl rfl (by simp only [List.map_toArray, List.map_cons, List.map_nil]; rfl) ?_
            with_reducible refine (C2.out _).mono ?_
            rintro e w18 ⟨rfl, hdr⟩
            refine ⟨_, rfl, ?_⟩
            obtain ⟨nd, hnd⟩ := hdr.out
            have hbd := pw_below_drewN HD9.out nd
            rw [← hnd] at hbd
            have HD18 := Aside0.mk hbd
            clear hdr hnd hbd
            refine hK.out _ _ ⟨(HS.out _ HD18.out).1, (HS.out _ HD18.out).2.1, (HS.out _ HD18.out).2.2⟩ (fun hHeld => ?_)
            clear hK K
            refine norm_ (a' := ?_) ?_ ?_
            rotate_left
            · show Act.put _ (some 119) _ = _
              simp only [Act.put, Nat.reduceAdd, List.setIfInBounds_toArray, List.set_cons_zero, List.set_cons_succ, i64_w, i32_w]
              rfl
            iterate 2
              refine pure_n (k' := _) (v := ?_) (a' := ?_) 101 (by simp only [Nat.reduceAdd, Nat.zero_add]; rfl) rfl rfl (by kernel_rfl) (fun _ _ _ h => h) (Or.inl ⟨by rfl, ?_⟩) ?_ ?_
              rotate_left
              · intro w'
                go_simp
                with_reducible rfl
              rotate_left
              · simp only [Act.put, Nat.reduceAdd, List.setIfInBounds_toArray, List.set_cons_zero, List.set_cons_succ, i64_w, i32_w]
                rfl
            iterate 7
              refine pure_n (k' := _) (v := undef) (a' := ?_) 101 (by simp only [Nat.reduceAdd, Nat.zero_add]; rfl) rfl rfl (by kernel_rfl) (fun _ _ _ h => h) (Or.inr ⟨by rfl, rfl⟩) ?_ ?_
              rotate_left
              · simp only [Act.put, Nat.reduceAdd, List.setIfInBounds_toArray, List.set_cons_zero, List.set_cons_succ, i64_w, i32_w]
                rfl
            iterate 2
              refine pure_n (k' := _) (v := ?_) (a' := ?_) 101 (by simp only [Nat.reduceAdd, Nat.zero_add]; rfl) rfl rfl (by kernel_rfl) (fun _ _ _ h => h) (Or.inl ⟨by rfl, ?_⟩) ?_ ?_
              rotate_left
              · intro w'
                go_simp
                with_reducible rfl
              rotate_left
              · simp only [Act.put, Nat.reduceAdd, List.setIfInBounds_toArray, List.set_cons_zero, List.set_cons_succ, i64_w, i32_w]
                rfl
            iterate 16
              refine pure_n (k' := _) (v := undef) (a' := ?_) 101 (by simp only [Nat.reduceAdd, Nat.zero_add]; rfl) rfl rfl (by kernel_rfl) (fun _ _ _ h => h) (Or.inr ⟨by rfl, rfl⟩) ?_ ?_
              rotate_left
              · simp only [Act.put, Nat.reduceAdd, List.setIfInBounds_toArray, List.set_cons_zero, List.set_cons_succ, i64_w, i32_w]
                rfl
            iterate 1
              refine pure_n (k' := _) (v := ?_) (a' := ?_) 101 (by simp only [Nat.reduceAdd, Nat.zero_add]; rfl) rfl rfl (by kernel_rfl) (fun _ _ _ h => h) (Or.inl ⟨by rfl, ?_⟩) ?_ ?_
              rotate_left
              · intro w'
                go_simp
                with_reducible rfl
              rotate_left
              · simp only [Act.put, Nat.reduceAdd, List.setIfInBounds_toArray, List.set_cons_zero, List.set_cons_succ, i64_w, i32_w]
                rfl
            refine done_ (by kernel_rfl) ?_
            have hdr := HD18.out
            have HB5 := Aside0.mk (HB1.out.trans (hdr.mono HB1.out.size))
            have HG5 := Aside0.mk (blk_below HG1.out hdr)
            clear hdr
            go_wp2
            go_roundw
            case rel => exact ⟨x + 1, by omega, by omega, by go_num, HG5, HB5, HA2⟩
            case measure => simp [intOf]; omega
        · have C1 : Aside0 (∀ V, Calls Try.prog 63 #[.int .i64 a1] V fun e w' => e = .returned (.bool false) ∧ Drawn0 V w') := ⟨fun V => decide_eq_false t1 ▸ word_calls a1 V⟩
          have HNEW : Aside0 (W16 ws1 x) := ⟨by obtain ⟨q0, q1, q2⟩ := HE.out; unfold W16; rw [← HY.out, q1, HV1.out, HV2.out]; exact fun _ h => absurd h t1⟩
          clear t1 HV1 HV2
          have HA2 := Aside0.mk (allTo_succ HA.out HNEW.out)
          clear HNEW HE HA
          go_upto_region 12 with fail
          refine start_n 35 (fun w' => True) (by kernel_rfl) rfl (by kernel_rfl) trivial (fun hHeld => ?_)
          iterate 3
            refine pure_n (k' := _) (v := ?_) (a' := ?_) 66 (by simp only [Nat.reduceAdd, Nat.zero_add]; rfl) rfl rfl (by kernel_rfl) (fun _ _ _ h => h) (Or.inl ⟨by rfl, ?_⟩) ?_ ?_
            rotate_left
            · intro w'
              go_simp
              with_reducible rfl
            rotate_left
            · simp only [Act.put, Nat.reduceAdd, List.setIfInBounds_toArray, List.set_cons_zero, List.set_cons_succ, i64_w, i32_w]
              rfl
          iterate 31
            refine pure_n (k' := _) (v := undef) (a' := ?_) 66 (by simp only [Nat.reduceAdd, Nat.zero_add]; rfl) rfl rfl (by kernel_rfl) (fun _ _ _ h => h) (Or.inr ⟨by rfl, rfl⟩) ?_ ?_
            rotate_left
            · simp only [Act.put, Nat.reduceAdd, List.setIfInBounds_toArray, List.set_cons_zero, List.set_cons_succ, i64_w, i32_w]
              rfl
          iterate 1
            refine pure_n (k' := _) (v := ?_) (a' := ?_) 66 (by simp only [Nat.reduceAdd, Nat.zero_add]; rfl) rfl rfl (by kernel_rfl) (fun _ _ _ h => h) (Or.inl ⟨by rfl, ?_⟩) ?_ ?_
            rotate_left
            · intro w'
              go_simp
              with_reducible rfl
            rotate_left
            · simp only [Act.put, Nat.reduceAdd, List.setIfInBounds_toArray, List.set_cons_zero, List.set_cons_succ, i64_w, i32_w]
              rfl
          refine done_ (by kernel_rfl) ?_
          go_upto_region 14 with fail
          refine start_n 47 (fun w' => w'.cell? ⟨wr.heap.size, 1, none⟩ = some (.int .i64 a1) ∧ w'.cell? ⟨(ax.add (y.toNat * 3)).block, (ax.add (y.toNat * 3)).off + 1, none⟩ = some (.int .i64 b1) ∧ w'.cell? ⟨(ax.add (y.toNat * 3)).block, (ax.add (y.toNat * 3)).off + 2, none⟩ = some (.int .i64 b2)) (by kernel_rfl) rfl (by kernel_rfl) ⟨(HS.out _ (below_drew1 (below_drew1 (Below.refl _ _)))).1, (HS.out _ (below_drew1 (below_drew1 (Below.refl _ _)))).2.1, (HS.out _ (below_drew1 (below_drew1 (Below.refl _ _)))).2.2⟩ (fun hHeld => ?_)
          iterate 8
            refine pure_n (k' := _) (v := ?_) (a' := ?_) 101 (by simp only [Nat.reduceAdd, Nat.zero_add]; rfl) rfl rfl (by kernel_rfl) (fun _ _ _ h => h) (Or.inl ⟨by rfl, ?_⟩) ?_ ?_
            rotate_left
            · intro w'
              go_simp
              with_reducible rfl
            rotate_left
            · simp only [Act.put, Nat.reduceAdd, List.setIfInBounds_toArray, List.set_cons_zero, List.set_cons_succ, i64_w, i32_w]
              rfl
          iterate 1
            refine take_n (k' := _) (v := ?_) (a' := ?_) 101 (by simp only [Nat.reduceAdd, Nat.zero_add]; rfl) rfl rfl (by kernel_rfl) (fun _ _ _ h => h) (Or.inl ⟨by rfl, ?_⟩) hHeld ?_ ?_
            rotate_left
            · rintro w' ⟨s0, s1, s2⟩
              go_simp
              with_reducible rfl
            rotate_left
            · simp only [Act.put, Nat.reduceAdd, List.setIfInBounds_toArray, List.set_cons_zero, List.set_cons_succ, i64_w, i32_w]
              rfl
          refine one_n (k' := _) 101 (by simp only [Nat.reduceAdd, Nat.zero_add]; rfl) rfl rfl (by kernel_rfl) (by decide) (fun K hK => ?_)
          refine goes_ Try.func63 (by kernel_rfl) rfl #[.int .i64 a1] (by rfl) rfl rfl (by simp only [List.map_toArray, List.map_cons, List.map_nil]; rfl) ?_
          with_reducible refine (C1.out _).mono ?_
          rintro e w9 ⟨rfl, hdr⟩
          refine ⟨_, rfl, ?_⟩
          obtain ⟨nd, hnd⟩ := hdr.out
          have hbd := pw_below_drewN (below_drew1 (below_drew1 (Below.refl (wr.alloc (.cells #[.int .i64 a0, .int .i64 a1, .int .i64 a2] 46)).heap.size (wr.alloc (.cells #[.int .i64 a0, .int .i64 a1, .int .i64 a2] 46))))) nd
          rw [← hnd] at hbd
          have HD9 := Aside0.mk hbd
          clear hdr hnd hbd
          refine hK.out _ _ ⟨(HS.out _ HD9.out).1, (HS.out _ HD9.out).2.1, (HS.out _ HD9.out).2.2⟩ (fun hHeld => ?_)
          clear hK K
          refine norm_ (a' := ?_) ?_ ?_
          rotate_left
          · show Act.put _ (some 110) _ = _
            simp only [Act.put, Nat.reduceAdd, List.setIfInBounds_toArray, List.set_cons_zero, List.set_cons_succ, i64_w, i32_w]
            rfl
          iterate 2
            refine pure_n (k' := _) (v := ?_) (a' := ?_) 101 (by simp only [Nat.reduceAdd, Nat.zero_add]; rfl) rfl rfl (by kernel_rfl) (fun _ _ _ h => h) (Or.inl ⟨by rfl, ?_⟩) ?_ ?_
            rotate_left
            · intro w'
              go_simp
              with_reducible rfl
            rotate_left
            · simp only [Act.put, Nat.reduceAdd, List.setIfInBounds_toArray, List.set_cons_zero, List.set_cons_succ, i64_w, i32_w]
              rfl
          iterate 7
            refine pure_n (k' := _) (v := undef) (a' := ?_) 101 (by simp only [Nat.reduceAdd, Nat.zero_add]; rfl) rfl rfl (by kernel_rfl) (fun _ _ _ h => h) (Or.inr ⟨by rfl, rfl⟩) ?_ ?_
            rotate_left
            · simp only [Act.put, Nat.reduceAdd, List.setIfInBounds_toArray, List.set_cons_zero, List.set_cons_succ, i64_w, i32_w]
              rfl
          iterate 2
            refine pure_n (k' := _) (v := ?_) (a' := ?_) 101 (by simp only [Nat.reduceAdd, Nat.zero_add]; rfl) rfl rfl (by kernel_rfl) (fun _ _ _ h => h) (Or.inl ⟨by rfl, ?_⟩) ?_ ?_
            rotate_left
            · intro w'
              go_simp
              with_reducible rfl
            rotate_left
            · simp only [Act.put, Nat.reduceAdd, List.setIfInBounds_toArray, List.set_cons_zero, List.set_cons_succ, i64_w, i32_w]
              rfl
          iterate 7
            refine pure_n (k' := _) (v := undef) (a' := ?_) 101 (by simp only [Nat.reduceAdd, Nat.zero_add]; rfl) rfl rfl (by kernel_rfl) (fun _ _ _ h => h) (Or.inr ⟨by rfl, rfl⟩) ?_ ?_
            rotate_left
            · simp only [Act.put, Nat.reduceAdd, List.setIfInBounds_toArray, List.set_cons_zero, List.set_cons_succ, i64_w, i32_w]
              rfl
          iterate 2
            refine pure_n (k' := _) (v := ?_) (a' := ?_) 101 (by simp only [Nat.reduceAdd, Nat.zero_add]; rfl) rfl rfl (by kernel_rfl) (fun _ _ _ h => h) (Or.inl ⟨by rfl, ?_⟩) ?_ ?_
            rotate_left
            · intro w'
              go_simp
              with_reducible rfl
            rotate_left
            · simp only [Act.put, Nat.reduceAdd, List.setIfInBounds_toArray, List.set_cons_zero, List.set_cons_succ, i64_w, i32_w]
              rfl
          iterate 16
            refine pure_n (k' := _) (v := undef) (a' := ?_) 101 (by simp only [Nat.reduceAdd, Nat.zero_add]; rfl) rfl rfl (by kernel_rfl) (fun _ _ _ h => h) (Or.inr ⟨by rfl, rfl⟩) ?_ ?_
            rotate_left
            · simp only [Act.put, Nat.reduceAdd, List.setIfInBounds_toArray, List.set_cons_zero, List.set_cons_succ, i64_w, i32_w]
              rfl
          iterate 1
            refine pure_n (k' := _) (v := ?_) (a' := ?_) 101 (by simp only [Nat.reduceAdd, Nat.zero_add]; rfl) rfl rfl (by kernel_rfl) (fun _ _ _ h => h) (Or.inl ⟨by rfl, ?_⟩) ?_ ?_
            rotate_left
            · intro w'
              go_simp
              with_reducible rfl
            rotate_left
            · simp only [Act.put, Nat.reduceAdd, List.setIfInBounds_toArray, List.set_cons_zero, List.set_cons_succ, i64_w, i32_w]
              rfl
          refine done_ (by kernel_rfl) ?_
          have hdr := HD9.out
          have HB5 := Aside0.mk (HB1.out.trans (hdr.mono HB1.out.size))
          have HG5 := Aside0.mk (blk_below HG1.out hdr)
          clear hdr
          go_wp2
          go_roundw
          case rel => exact ⟨x + 1, by omega, by omega, by go_num, HG5, HB5, HA2⟩
          case measure => simp [intOf]; omega
      · have e0 : decide ((0 : Int) < x) = false := decide_eq_false g0
        have HNEW : Aside0 (W16 ws1 x) := ⟨fun h => absurd h g0⟩
        clear g0
        have HA2 := Aside0.mk (allTo_succ HA.out HNEW.out)
        clear HNEW HE HA
        go_upto_region 12 with fail
        refine start_n 35 (fun w' => True) (by kernel_rfl) rfl (by kernel_rfl) trivial (fun hHeld => ?_)
        iterate 3
          refine pure_n (k' := _) (v := ?_) (a' := ?_) 66 (by simp only [Nat.reduceAdd, Nat.zero_add]; rfl) rfl rfl (by kernel_rfl) (fun _ _ _ h => h) (Or.inl ⟨by rfl, ?_⟩) ?_ ?_
          rotate_left
          · intro w'
            go_simp
            with_reducible rfl
          rotate_left
          · simp only [Act.put, Nat.reduceAdd, List.setIfInBounds_toArray, List.set_cons_zero, List.set_cons_succ, i64_w, i32_w]
            rfl
        iterate 31
          refine pure_n (k' := _) (v := undef) (a' := ?_) 66 (by simp only [Nat.reduceAdd, Nat.zero_add]; rfl) rfl rfl (by kernel_rfl) (fun _ _ _ h => h) (Or.inr ⟨by rfl, rfl⟩) ?_ ?_
          rotate_left
          · simp only [Act.put, Nat.reduceAdd, List.setIfInBounds_toArray, List.set_cons_zero, List.set_cons_succ, i64_w, i32_w]
            rfl
        iterate 1
          refine pure_n (k' := _) (v := ?_) (a' := ?_) 66 (by simp only [Nat.reduceAdd, Nat.zero_add]; rfl) rfl rfl (by kernel_rfl) (fun _ _ _ h => h) (Or.inl ⟨by rfl, ?_⟩) ?_ ?_
          rotate_left
          · intro w'
            go_simp
            with_reducible rfl
          rotate_left
          · simp only [Act.put, Nat.reduceAdd, List.setIfInBounds_toArray, List.set_cons_zero, List.set_cons_succ, i64_w, i32_w]
            rfl
        refine done_ (by kernel_rfl) ?_
        go_upto_region 14 with fail
        refine start_n 47 (fun w' => True) (by kernel_rfl) rfl (by kernel_rfl) trivial (fun hHeld => ?_)
        iterate 7
          refine pure_n (k' := _) (v := ?_) (a' := ?_) 101 (by simp only [Nat.reduceAdd, Nat.zero_add]; rfl) rfl rfl (by kernel_rfl) (fun _ _ _ h => h) (Or.inl ⟨by rfl, ?_⟩) ?_ ?_
          rotate_left
          · intro w'
            go_simp
            with_reducible rfl
          rotate_left
          · simp only [Act.put, Nat.reduceAdd, List.setIfInBounds_toArray, List.set_cons_zero, List.set_cons_succ, i64_w, i32_w]
            rfl
        iterate 3
          refine pure_n (k' := _) (v := undef) (a' := ?_) 101 (by simp only [Nat.reduceAdd, Nat.zero_add]; rfl) rfl rfl (by kernel_rfl) (fun _ _ _ h => h) (Or.inr ⟨by rfl, rfl⟩) ?_ ?_
          rotate_left
          · simp only [Act.put, Nat.reduceAdd, List.setIfInBounds_toArray, List.set_cons_zero, List.set_cons_succ, i64_w, i32_w]
            rfl
        iterate 2
          refine pure_n (k' := _) (v := ?_) (a' := ?_) 101 (by simp only [Nat.reduceAdd, Nat.zero_add]; rfl) rfl rfl (by kernel_rfl) (fun _ _ _ h => h) (Or.inl ⟨by rfl, ?_⟩) ?_ ?_
          rotate_left
          · intro w'
            go_simp
            with_reducible rfl
          rotate_left
          · simp only [Act.put, Nat.reduceAdd, List.setIfInBounds_toArray, List.set_cons_zero, List.set_cons_succ, i64_w, i32_w]
            rfl
        iterate 7
          refine pure_n (k' := _) (v := undef) (a' := ?_) 101 (by simp only [Nat.reduceAdd, Nat.zero_add]; rfl) rfl rfl (by kernel_rfl) (fun _ _ _ h => h) (Or.inr ⟨by rfl, rfl⟩) ?_ ?_
          rotate_left
          · simp only [Act.put, Nat.reduceAdd, List.setIfInBounds_toArray, List.set_cons_zero, List.set_cons_succ, i64_w, i32_w]
            rfl
        iterate 2
          refine pure_n (k' := _) (v := ?_) (a' := ?_) 101 (by simp only [Nat.reduceAdd, Nat.zero_add]; rfl) rfl rfl (by kernel_rfl) (fun _ _ _ h => h) (Or.inl ⟨by rfl, ?_⟩) ?_ ?_
          rotate_left
          · intro w'
            go_simp
            with_reducible rfl
          rotate_left
          · simp only [Act.put, Nat.reduceAdd, List.setIfInBounds_toArray, List.set_cons_zero, List.set_cons_succ, i64_w, i32_w]
            rfl
        iterate 7
          refine pure_n (k' := _) (v := undef) (a' := ?_) 101 (by simp only [Nat.reduceAdd, Nat.zero_add]; rfl) rfl rfl (by kernel_rfl) (fun _ _ _ h => h) (Or.inr ⟨by rfl, rfl⟩) ?_ ?_
          rotate_left
          · simp only [Act.put, Nat.reduceAdd, List.setIfInBounds_toArray, List.set_cons_zero, List.set_cons_succ, i64_w, i32_w]
            rfl
        iterate 2
          refine pure_n (k' := _) (v := ?_) (a' := ?_) 101 (by simp only [Nat.reduceAdd, Nat.zero_add]; rfl) rfl rfl (by kernel_rfl) (fun _ _ _ h => h) (Or.inl ⟨by rfl, ?_⟩) ?_ ?_
          rotate_left
          · intro w'
            go_simp
            with_reducible rfl
          rotate_left
          · simp only [Act.put, Nat.reduceAdd, List.setIfInBounds_toArray, List.set_cons_zero, List.set_cons_succ, i64_w, i32_w]
            rfl
        iterate 16
          refine pure_n (k' := _) (v := undef) (a' := ?_) 101 (by simp only [Nat.reduceAdd, Nat.zero_add]; rfl) rfl rfl (by kernel_rfl) (fun _ _ _ h => h) (Or.inr ⟨by rfl, rfl⟩) ?_ ?_
          rotate_left
          · simp only [Act.put, Nat.reduceAdd, List.setIfInBounds_toArray, List.set_cons_zero, List.set_cons_succ, i64_w, i32_w]
            rfl
        iterate 1
          refine pure_n (k' := _) (v := ?_) (a' := ?_) 101 (by simp only [Nat.reduceAdd, Nat.zero_add]; rfl) rfl rfl (by kernel_rfl) (fun _ _ _ h => h) (Or.inl ⟨by rfl, ?_⟩) ?_ ?_
          rotate_left
          · intro w'
            go_simp
            with_reducible rfl
          rotate_left
          · simp only [Act.put, Nat.reduceAdd, List.setIfInBounds_toArray, List.set_cons_zero, List.set_cons_succ, i64_w, i32_w]
            rfl
        refine done_ (by kernel_rfl) ?_
        have hdr := below_drew1 (below_drew1 (Below.refl (wr.alloc (.cells #[.int .i64 a0, .int .i64 a1, .int .i64 a2] 46)).heap.size (wr.alloc (.cells #[.int .i64 a0, .int .i64 a1, .int .i64 a2] 46))))
        have HB5 := Aside0.mk (HB1.out.trans (hdr.mono HB1.out.size))
        have HG5 := Aside0.mk (blk_below HG1.out hdr)
        clear hdr
        go_wp2
        go_roundw
        case rel => exact ⟨x + 1, by omega, by omega, by go_num, HG5, HB5, HA2⟩
        case measure => simp [intOf]; omega
    · have hd : decide (x < (n3 : Int)) = false := decide_eq_false hlt
      obtain rfl : x = n3 := by omega
      go_wp2
      go_ret
      exact ⟨⟨false, rfl, fun _ => HA.out⟩, HB.out⟩
end Go.Proofs.Ytndmdlnmjamgkaa.Core
