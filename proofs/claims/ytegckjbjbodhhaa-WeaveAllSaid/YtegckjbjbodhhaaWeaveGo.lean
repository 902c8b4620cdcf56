import Derived.Test.YtegckjbjbodhhaaWeavePush
/- Package weave: the closure, whole: by the acts left. -/
namespace Go.Proofs.Ytegckjbjbodhhaa.Weave
open Go.RowKit Go.Shelf Go.Proofs.YtegckjbjbodhhaaW.PrintWords Go.Proofs.YtegckjbjbodhhaaW.PrintMore Go.Proofs.Ytegckjbjbodhhaa.RangeX Go.Proofs.Ytegckjbjbodhhaa.Box
attribute [local go_sem] Oper.semAt_some
theorem ix0 (a b : Int) (w : World) : Sem.run Try.prog (Instr.index 30 (.agg #[.int .i64 a, .int .i64 b]) (.int .i64 0)) w = .ok (.int .i64 a) w := rfl
theorem ix1 (a b : Int) (w : World) : Sem.run Try.prog (Instr.index 30 (.agg #[.int .i64 a, .int .i64 b]) (.int .i64 1)) w = .ok (.int .i64 b) w := rfl
attribute [local go_sem] ix0 ix1
section
variable (B l gy gw go N : Nat) (J Jx : List Item → (Nat → Prop) → World → Prop)
/-- What a round leaves: the ways so far are handed over. -/
def Sofar (pre : List Item) (wy : List Int) (L : List (List Int)) (W : World) : Prop := ∃ X its, its.map (·.2) = L.map (wy ++ ·) ∧ J (pre ++ its) X W ∧ Inv B l gy gw go wy X W
set_option maxRecDepth 100000 in
set_option maxHeartbeats 4000000 in
theorem on_calls (hJ : AbX J) (hJx : AbX Jx) (hY : YieldOk B l N J Jx) : ∀ (s n m : Nat), n + m = s → ∀ (k : Nat) (pre : List Item) (wy : List Int) (X : Nat → Prop) (W : World), J pre X W → Inv B l gy gw go wy X W → pre.length + (ways n m).length ≤ N → wy.length + s ≤ 16 →
    CallsIn Fence.wide k Try.prog 23 #[.int .i64 (n : Int), .int .i64 (m : Int), .pointer (some ⟨gy, 0, none⟩), .pointer (some ⟨gw, 0, none⟩), .pointer (some ⟨go, 0, none⟩)] W (OnPost B l gy gw go J Jx pre wy (ways n m)) := by
  intro s
  induction s with
  | zero =>
    intro n m h k pre wy X W h0 hI hN hl
    obtain ⟨rfl, rfl⟩ : n = 0 ∧ m = 0 := by omega
    rw [show ways 0 0 = [[]] from by simp [ways]] at hN ⊢
    exact on_leaf B l gy gw go N J Jx hJ hY k pre wy X W h0 hI (inv_B hI) (Nat.lt_of_succ_le (by simpa using hN)) (by omega)
  | succ s ih =>
    intro n m h k pre wy X W h0 hI hN hl
    have H0 : Sofar B l gy gw go J pre wy (parts n m 0) W := ⟨X, [], rfl, by simpa using h0, hI⟩
    have hp2 := parts_two n m (by omega)
    rw [← hp2] at hN ⊢
    have HN := Aside0.mk hN
    have HS := Aside0.mk H0
    have IH := Aside0.mk ih
    have HJ := Aside0.mk hJ
    have HJX := Aside0.mk hJx
    have hdec : ((n : Int) + (m : Int) == 0) = false := beq_eq_false_iff_ne.2 (by omega)
    clear hN H0 ih hY hJ hJx h0 hI hp2
    refine callsIn_of_wp Try.func23 rfl trivial ?_ rfl
    simp only [Try.ntmps23, List.size_toArray, List.length_cons, List.length_nil, Nat.reduceAdd, Nat.reduceSub, Array.replicate_succ, Array.replicate_zero, List.push_toArray, List.append_toArray, List.nil_append, List.cons_append]
    gi_wp2
    gi_loopw [22] (fun vi wr => ∃ i : Nat, i ≤ 2 ∧ vi = .int .i64 i ∧ Aside0 (Sofar B l gy gw go J pre wy (parts n m i) wr)) (fun i _ => 2 - (intOf i).toNat)
    case atStart => exact ⟨0, by omega, rfl, HS⟩
    case round =>
      obtain ⟨i, hi, rfl, HS⟩ := hrel
      obtain ⟨X1, its, hits, hj, hinv⟩ := HS.out
      obtain rfl | rfl | rfl : i = 0 ∨ i = 1 ∨ i = 2 := by omega
      · by_cases hn : n = 0
        · have hdn : ((n : Int) == 0) = true := beq_iff_eq.2 (by omega)
          gi_wp2
          go_roundw
          case rel => exact ⟨1, by omega, by go_num, ⟨_, its, by rw [hits, parts_same n m 0 (.inl ⟨rfl, hn⟩)], hj, hinv⟩⟩
          case measure => simp [intOf]
        · have hdn : ((n : Int) == 0) = false := beq_eq_false_iff_ne.2 (by omega)
          have hgw : ∃ ad c, wr.cell? ⟨gw, 0, none⟩ = some (.slice ad wy.length c) := by
            obtain ⟨_, _, _, _, _, _, v, b3, hv⟩ := hinv
            obtain ⟨A, c, rfl⟩ := Kd.R_slice hv
            exact ⟨A, c, (blk_cell b3 0).trans rfl⟩
          obtain ⟨ad, c, hgw⟩ := hgw
          have HJ1 := Aside0.mk hj
          have HI1 := Aside0.mk hinv
          clear hj hinv
          gi_wp2_with (gi_at_builtin; refine push_op HJ.out (0 : Int) ad c HJ1.out HI1.out hgw (by omega) _ _ rfl rfl rfl rfl ?_; rintro g c1 w1 _ rfl hc1 hf hc2 hx; have HX := Aside0.mk hx; clear hx)
          obtain ⟨X2, hj2, hin2⟩ := HX.out
          have hcall := IH.out (n - 1) m (by omega) (k - 1) (pre ++ its) (wy ++ [0]) X2 _ hj2 hin2 (room_at (.inl ⟨rfl, rfl, hn, rfl, rfl⟩) hits HN.out) (by simp; omega)
          rw [show ((n - 1 : Nat) : Int) = (n : Int) - 1 by omega] at hcall
          refine ⟨trivial, fun h => (nomatch h), hcall.mono ?_⟩
          clear hcall hj2 hin2
          obtain ⟨hp1, r, hp2⟩ := parts_at n m 0 0 (n - 1) m (.inl ⟨rfl, rfl, hn, rfl, rfl⟩)
          rintro e w2 (⟨rfl, X3, it2, h31, h32, h33⟩ | ⟨rfl, X3, it2, r2, h31, h32, h33⟩)
          · obtain ⟨g2, c2, hg1, hg2, hg3, hg4, hg5⟩ := pop_step HJ.out (0 : Int) h32 h33
            have HG4 := Aside0.mk hg4
            have HG5 := Aside0.mk hg5
            clear h32 h33 hg4 hg5
            gi_wp2
            go_roundw
            case rel => exact ⟨1, by omega, by go_num, ⟨_, its ++ it2, by rw [hp1]; exact join_its hits h31, by rw [← List.append_assoc]; exact HG4.out, HG5.out⟩⟩
            case measure => simp [intOf]
          · obtain ⟨g2, c2, hg1, hg2, hg3, hg4, hg5⟩ := pop_step HJX.out (0 : Int) h32 h33
            have HG4 := Aside0.mk hg4
            have HG5 := Aside0.mk hg5
            obtain ⟨R', hR'⟩ := join_part hits h31 (hp2.trans (congrArg (· ++ r) hp1))
            clear h32 h33 hg4 hg5
            gi_wp2
            go_ret
            exact .inr ⟨rfl, _, its ++ it2, R', hR', by rw [← List.append_assoc]; exact HG4.out, HG5.out⟩
      · by_cases hn : m = 0
        · have hdn : ((m : Int) == 0) = true := beq_iff_eq.2 (by omega)
          gi_wp2
          go_roundw
          case rel => exact ⟨2, by omega, by go_num, ⟨_, its, by rw [hits, parts_same n m 1 (.inr ⟨rfl, hn⟩)], hj, hinv⟩⟩
          case measure => simp [intOf]
        · have hdn : ((m : Int) == 0) = false := beq_eq_false_iff_ne.2 (by omega)
          have hgw : ∃ ad c, wr.cell? ⟨gw, 0, none⟩ = some (.slice ad wy.length c) := by
            obtain ⟨_, _, _, _, _, _, v, b3, hv⟩ := hinv
            obtain ⟨A, c, rfl⟩ := Kd.R_slice hv
            exact ⟨A, c, (blk_cell b3 0).trans rfl⟩
          obtain ⟨ad, c, hgw⟩ := hgw
          have HJ1 := Aside0.mk hj
          have HI1 := Aside0.mk hinv
          clear hj hinv
          gi_wp2_with (gi_at_builtin; refine push_op HJ.out (1 : Int) ad c HJ1.out HI1.out hgw (by omega) _ _ rfl rfl rfl rfl ?_; rintro g c1 w1 _ rfl hc1 hf hc2 hx; have HX := Aside0.mk hx; clear hx)
          obtain ⟨X2, hj2, hin2⟩ := HX.out
          have hcall := IH.out n (m - 1) (by omega) (k - 1) (pre ++ its) (wy ++ [1]) X2 _ hj2 hin2 (room_at (.inr ⟨rfl, rfl, hn, rfl, rfl⟩) hits HN.out) (by simp; omega)
          rw [show ((m - 1 : Nat) : Int) = (m : Int) - 1 by omega] at hcall
          refine ⟨trivial, fun h => (nomatch h), hcall.mono ?_⟩
          clear hcall hj2 hin2
          obtain ⟨hp1, r, hp2⟩ := parts_at n m 1 1 n (m - 1) (.inr ⟨rfl, rfl, hn, rfl, rfl⟩)
          rintro e w2 (⟨rfl, X3, it2, h31, h32, h33⟩ | ⟨rfl, X3, it2, r2, h31, h32, h33⟩)
          · obtain ⟨g2, c2, hg1, hg2, hg3, hg4, hg5⟩ := pop_step HJ.out (1 : Int) h32 h33
            have HG4 := Aside0.mk hg4
            have HG5 := Aside0.mk hg5
            clear h32 h33 hg4 hg5
            gi_wp2
            go_roundw
            case rel => exact ⟨2, by omega, by go_num, ⟨_, its ++ it2, by rw [hp1]; exact join_its hits h31, by rw [← List.append_assoc]; exact HG4.out, HG5.out⟩⟩
            case measure => simp [intOf]
          · obtain ⟨g2, c2, hg1, hg2, hg3, hg4, hg5⟩ := pop_step HJX.out (1 : Int) h32 h33
            have HG4 := Aside0.mk hg4
            have HG5 := Aside0.mk hg5
            obtain ⟨R', hR'⟩ := join_part hits h31 (hp2.trans (congrArg (· ++ r) hp1))
            clear h32 h33 hg4 hg5
            gi_wp2
            go_ret
            exact .inr ⟨rfl, _, its ++ it2, R', hR', by rw [← List.append_assoc]; exact HG4.out, HG5.out⟩
      · gi_wp2
        go_ret
        exact .inl ⟨rfl, _, its, hits, hj, hinv⟩
end
end Go.Proofs.Ytegckjbjbodhhaa.Weave
