import Derived.Test.YtegckjbjbodhhaaWeaveRank
import Derived.Test.YtegckjbjbodhhaaWeaveWakes
import Derived.Test.YtegckjbjbodhhaaOpn
/- The law WeaveNth: its walk. -/
namespace Go.Proofs.Ytegckjbjbodhhaa.Weave
open Go.RowKit Go.Proofs.YtegckjbjbodhhaaW.PrintWords Go.Proofs.YtegckjbjbodhhaaW.PrintMore
theorem opn_two_ints : Opn.Opn Try.prog 30 (Kd.pair (Kd.int .i64) (Kd.int .i64)) (fun x => (Lit.int .i64 x.1).wf = true ∧ (Lit.int .i64 x.2).wf = true) := Opn.opn_two Try.underlying30 (by kernel_rfl) (by kernel_rfl) (Opn.opn_int Try.underlying3)
/-- What Nth answers, in one word. -/
def nthV (n m i : Int) : List Int × Bool := match wayAt n m i with | some r => (r, true) | none => ([], false)
theorem nth_v (n m i : Int) : PW.weave_Nth.f 60 n m i = some ((nthV n m i).1, (nthV n m i).2) := by
  unfold nthV
  cases h : wayAt n m i with
  | none => exact nth_none _ _ _ h
  | some r => exact nth_some _ _ _ _ h
theorem nthV_in {n m i : Int} (h0 : 0 ≤ i) (h1 : i < ((allW n m).length : Int)) : ∃ r, (allW n m)[i.toNat]? = some r ∧ nthV n m i = (r, true) := by
  have h := wayAt_some_iff n m i
  rw [decide_eq_true ⟨h0, h1⟩, Option.isSome_iff_exists] at h
  obtain ⟨r, hr⟩ := h
  refine ⟨r, ?_, by rw [nthV, hr]⟩
  unfold wayAt at hr
  rwa [if_pos h0] at hr
theorem nthV_out {n m i : Int} (h : i < 0 ∨ ((allW n m).length : Int) ≤ i) : nthV n m i = ([], false) := by
  have h2 := wayAt_some_iff n m i
  rw [decide_eq_false (by omega), Option.isSome_eq_false_iff, Option.isNone_iff_eq_none] at h2
  rw [nthV, h2]
theorem ways_at (n m : Int) (i j : Nat) (a b : List Int) (ha : (allW n m)[i]? = some a) (hb : (allW n m)[j]? = some b) (h : i < j) : lessB a b = true ∧ a ≠ b := by
  obtain ⟨hi, rfl⟩ := List.getElem?_eq_some_iff.1 ha
  obtain ⟨hj, rfl⟩ := List.getElem?_eq_some_iff.1 hb
  have hp : (allW n m).Pairwise (fun a b => lessB a b = true ∧ lessB b a = false ∧ a ≠ b) := by
    unfold allW
    split
    · exact ways_sorted _ _ _ rfl
    · exact List.Pairwise.nil
  have := List.pairwise_iff_getElem.1 hp i j hi hj h
  exact ⟨this.1, this.2.2⟩
set_option maxRecDepth 100000 in
set_option maxHeartbeats 8000000 in
theorem WeaveNth_walk (W : World) (n : Int) (_hn : (Lit.int .i64 n).wf = true) (m : Int) (_hm : (Lit.int .i64 m).wf = true) (cs : Array Value) (x : Int × Int) (hK : (Kd.pair (Kd.int .i64) (Kd.int .i64)).K W x (Value.agg cs).cells.toList) (_hV : (Lit.int .i64 x.1).wf = true ∧ (Lit.int .i64 x.2).wf = true) :
    Calls Try.prog 5 #[.int .i64 n, .int .i64 m, .agg cs] W fun e w' => e = .returned (.bool true) ∧ Below W.heap.size W w' := by
  obtain ⟨i, k⟩ := x
  have hcs : cs = #[.int .i64 i, .int .i64 k] := by
    obtain ⟨c1, c2, h, h1, h2⟩ := hK
    have h1 : c1 = [.int .i64 i] := h1
    have h2 : c2 = [.int .i64 k] := h2
    rw [h1, h2] at h
    cases cs
    simpa [Value.cells] using h
  subst hcs
  clear hK _hV _hn _hm
  obtain ⟨a, b, hab, hcase⟩ : ∃ a b, a ≤ b ∧ ((k < i ∧ a = k ∧ b = i) ∨ (¬ k < i ∧ a = i ∧ b = k)) := by
    by_cases h : k < i
    · exact ⟨k, i, by omega, .inl ⟨h, rfl, rfl⟩⟩
    · exact ⟨i, k, by omega, .inr ⟨h, rfl, rfl⟩⟩
  have hb0 := below_alloc (Below.refl _ W) (.cells #[.int .i64 i, .int .i64 k] 30)
  have hbx := blk_new W (.cells #[.int .i64 i, .int .i64 k] 30)
  go_enter Try.func5, Try.ntmps5
  go_wp2_with fail
  refine (wakes_calls _).mono ?_
  rintro e w1 ⟨rfl, hb1⟩
  have hB := hb0.trans (hb1.mono hb0.size)
  have hc0 : w1.cell? ⟨W.heap.size, 0, none⟩ = some (.int .i64 i) := (blk_cell (blk_below hbx hb1) 0).trans rfl
  have hc1 : w1.cell? ⟨W.heap.size, 1, none⟩ = some (.int .i64 k) := (blk_cell (blk_below hbx hb1) 1).trans rfl
  have HB := Aside0.mk hB
  clear hB hb0 hb1 hbx
  go_wp2_with fail
  go_quiet (fail)
  have hB := pw_below_drewN HB.out nq
  have HB1 := Aside0.mk hB
  clear hB
  rcases hcase with ⟨hlt, rfl, rfl⟩ | ⟨hlt, rfl, rfl⟩
  all_goals
    have hq1 := fun w => PW.weave_Nth.calls 60 n m a _ _ w (nth_v n m a)
    have hq2 := fun w => PW.weave_Nth.calls 60 n m b _ _ w (nth_v n m b)
    have hq3 := fun w => PW.portholeref27_Count.calls 400 n m _ w (rcount_f n m)
    have HQ1 := Aside0.mk hq1
    have HQ2 := Aside0.mk hq2
    have HQ3 := Aside0.mk hq3
    have HL := Aside0.mk (allW_len n m)
    have HIN := Aside0.mk (fun (i : Int) (h0 : 0 ≤ i) (h1 : i < ((allW n m).length : Int)) => nthV_in (n := n) (m := m) h0 h1)
    have HOUT := Aside0.mk (fun (i : Int) (h : i < 0 ∨ ((allW n m).length : Int) ≤ i) => nthV_out (n := n) (m := m) h)
    have HORD := Aside0.mk (ways_at n m)
    have HMEM := Aside0.mk (fun (j : Nat) (r : List Int) (h : (allW n m)[j]? = some r) => wayB_of n m r (List.mem_of_getElem? h))
    first | (have hdl := decide_eq_false hlt) | (have hdl := decide_eq_true hlt)
    clear hq1 hq2 hq3 hlt hc0 hc1
    generalize allW n m = L at *
    generalize hNa : nthV n m a = na at *
    generalize hNb : nthV n m b = nb at *
    go_wp2_with fail
    refine (HQ1.out _).mono ?_
    rintro e w2 ⟨va, rfl, hva, hb2⟩
    have HVA := Aside0.mk hva
    have HB2 := Aside0.mk (HB1.out.trans (hb2.mono HB1.out.size))
    obtain ⟨Aa, ca, rfl⟩ := Kd.R_slice hva
    clear hva hb2
    go_wp2_with fail
    refine (HQ2.out _).mono ?_
    rintro e w3 ⟨vb, rfl, hvb, hb3⟩
    have HVA3 := Aside0.mk (Kd.R_below HVA.out hb3)
    have HVB := Aside0.mk hvb
    have HB3 := Aside0.mk (HB2.out.trans (hb3.mono HB2.out.size))
    obtain ⟨Ab, cb, rfl⟩ := Kd.R_slice hvb
    clear hvb hb3
    go_wp2_with fail
    refine (HQ3.out _).mono ?_
    rintro e w4 ⟨rfl, hb4⟩
    have HRA := Aside0.mk (Kd.R_reads' (Kd.R_below HVA3.out hb4)).2
    have HRB := Aside0.mk (Kd.R_reads' (Kd.R_below HVB.out hb4)).2
    have HB4 := Aside0.mk (HB3.out.trans (hb4.mono HB3.out.size))
    have hA : (na = ([], false) ∧ a < 0) ∨ (na = ([], false) ∧ 0 ≤ a ∧ (L.length : Int) ≤ a) ∨ (∃ r, na = (r, true) ∧ L[a.toNat]? = some r ∧ 0 ≤ a ∧ a < (L.length : Int)) := by
      by_cases h0 : a < 0
      · exact .inl ⟨by rw [← hNa, HOUT.out a (.inl h0)], h0⟩
      · by_cases h1 : (L.length : Int) ≤ a
        · exact .inr (.inl ⟨by rw [← hNa, HOUT.out a (.inr h1)], by omega, h1⟩)
        · obtain ⟨r, h2, h3⟩ := HIN.out a (by omega) (by omega)
          exact .inr (.inr ⟨r, by rw [← hNa, h3], h2, by omega, by omega⟩)
    have hBB : (nb = ([], false) ∧ b < 0) ∨ (nb = ([], false) ∧ 0 ≤ b ∧ (L.length : Int) ≤ b) ∨ (∃ r, nb = (r, true) ∧ L[b.toNat]? = some r ∧ 0 ≤ b ∧ b < (L.length : Int)) := by
      by_cases h0 : b < 0
      · exact .inl ⟨by rw [← hNb, HOUT.out b (.inl h0)], h0⟩
      · by_cases h1 : (L.length : Int) ≤ b
        · exact .inr (.inl ⟨by rw [← hNb, HOUT.out b (.inr h1)], by omega, h1⟩)
        · obtain ⟨r, h2, h3⟩ := HIN.out b (by omega) (by omega)
          exact .inr (.inr ⟨r, by rw [← hNb, h3], h2, by omega, by omega⟩)
    have HW : ∀ (j : Nat) (r : List Int) (A : Option Addr) (c : Nat), L[j]? = some r → r.length ≤ c → Kd.C (Kd.int .i64) w4 A r.length r → ∀ w, Below w4.heap.size w4 w → Calls Try.prog 14 #[.slice A r.length c, .int .i64 n, .int .i64 m] w fun e w' => e = .returned (.bool true) ∧ Drawn0 w w' := by
      intro j r A c hj hc hr w hb
      obtain ⟨h1, h2⟩ := HMEM.out j r hj
      have := PW.portholeref27_Way.calls 40 A c r n m _ w (Kd.C_below hr hb) hc (way_f 40 r n m (by omega) (by omega))
      rw [h1] at this
      exact this
    have HWA := Aside0.mk (fun (j : Nat) (hj : L[j]? = some na.1) => HW j na.1 Aa ca hj HRA.out.1 HRA.out.2)
    have HWB := Aside0.mk (fun (j : Nat) (hj : L[j]? = some nb.1) => HW j nb.1 Ab cb hj HRB.out.1 HRB.out.2)
    have HLS := Aside0.mk (fun (w : World) (hb : Below w4.heap.size w4 w) (hl : na.1.length ≤ 16) => PW.portholeref27_Less.calls 60 Aa ca na.1 Ab cb nb.1 _ w (Kd.C_below HRA.out.2 hb) HRA.out.1 (Kd.C_below HRB.out.2 hb) HRB.out.1 (less_f 60 na.1 nb.1 (by omega) (by omega)))
    have HSM := Aside0.mk (fun (w : World) (hb : Below w4.heap.size w4 w) (hl : na.1.length ≤ 16) => PW.portholeref01_Same.calls 60 Aa ca na.1 Ab cb nb.1 _ w (Kd.C_below HRA.out.2 hb) HRA.out.1 (Kd.C_below HRB.out.2 hb) HRB.out.1 (same_f 60 na.1 nb.1 (by omega) (by omega)))
    clear hb4 HVA HVA3 HVB HW hNa hNb HIN HOUT HQ1 HQ2 HQ3 HB HB1 HB2 HB3
    rcases hA with ⟨rfl, ha⟩ | ⟨rfl, ha, ha1⟩ | ⟨ra, rfl, hLa, ha, ha1⟩ <;> rcases hBB with ⟨rfl, hb⟩ | ⟨rfl, hb, hb1⟩ | ⟨rb, rfl, hLb, hb, hb1⟩
    all_goals first
      | omega
      | skip
    all_goals
      dsimp only at HWA HWB HLS HSM HRA HRB ⊢
      first | (have f1 := decide_eq_true (show 0 ≤ a by omega)) | (have f1 := decide_eq_false (show ¬ 0 ≤ a by omega))
      first | (have f2 := decide_eq_true (show 0 ≤ b by omega)) | (have f2 := decide_eq_false (show ¬ 0 ≤ b by omega))
      first | (have f3 := decide_eq_true (show a < (L.length : Int) by omega)) | (have f3 := decide_eq_false (show ¬ a < (L.length : Int) by omega))
      first | (have f4 := decide_eq_true (show b < (L.length : Int) by omega)) | (have f4 := decide_eq_false (show ¬ b < (L.length : Int) by omega))
      generalize (L.length : Int) = N at *
      have HA := Aside0.mk ha
      have HBx := Aside0.mk hb
      clear ha hb
    · go_wp2
      go_ret
      exact ⟨rfl, HB4.out⟩
    · go_wp2
      go_ret
      exact ⟨rfl, HB4.out⟩
    · go_wp2_with fail
      refine (HWB.out _ hLb w4 (Below.refl _ _)).mono ?_
      rintro e w5 ⟨rfl, hd⟩
      have HB5 := Aside0.mk (HB4.out.trans (hd.below.mono HB4.out.size))
      clear hd
      go_wp2
      go_ret
      exact ⟨rfl, HB5.out⟩
    · go_wp2
      go_ret
      exact ⟨rfl, HB4.out⟩
    · go_wp2_with fail
      refine (HWA.out _ hLa w4 (Below.refl _ _)).mono ?_
      rintro e w5 ⟨rfl, hd⟩
      have HB5 := Aside0.mk (HB4.out.trans (hd.below.mono HB4.out.size))
      clear hd
      go_wp2
      go_ret
      exact ⟨rfl, HB5.out⟩
    · have hl16 : ra.length ≤ 16 := (HMEM.out _ _ hLa).2
      have ha := HA.out
      have hb := HBx.out
      have hless : lessB ra rb = decide (a < b) := by
        by_cases hlt : a < b
        · rw [(HORD.out _ _ _ _ hLa hLb (by omega)).1, decide_eq_true hlt]
        · obtain rfl : a = b := by omega
          rw [hLa] at hLb
          cases hLb
          rw [lessB_self, decide_eq_false hlt]
      have hsame : decide (ra = rb) = (a == b) := by
        by_cases hlt : a < b
        · rw [decide_eq_false (HORD.out _ _ _ _ hLa hLb (by omega)).2, beq_eq_false_iff_ne.2 (by omega)]
        · obtain rfl : a = b := by omega
          rw [hLa] at hLb
          cases hLb
          rw [decide_eq_true rfl, beq_self_eq_true]
      rw [hless] at HLS
      rw [hsame] at HSM
      clear hless hsame ha hb
      go_wp2_with fail
      refine (HWA.out _ hLa w4 (Below.refl _ _)).mono ?_
      rintro e w5 ⟨rfl, hd⟩
      have hb5 := hd.below
      clear hd
      go_wp2_with fail
      refine (HWB.out _ hLb w5 hb5).mono ?_
      rintro e w6 ⟨rfl, hd⟩
      have hb6 := hb5.trans (hd.below.mono hb5.size)
      clear hd
      go_wp2_with fail
      refine (HLS.out w6 hb6 hl16).mono ?_
      rintro e w7 ⟨rfl, hd⟩
      have hb7 := hb6.trans (hd.below.mono hb6.size)
      clear hd
      go_wp2_with fail
      refine (HSM.out w7 hb7 hl16).mono ?_
      rintro e w8 ⟨rfl, hd⟩
      have HB8 := Aside0.mk (HB4.out.trans ((hb7.trans (hd.below.mono hb7.size)).mono HB4.out.size))
      clear hd hb5 hb6 hb7
      go_wp2
      go_ret
      exact ⟨by simp, HB8.out⟩
end Go.Proofs.Ytegckjbjbodhhaa.Weave
