import Derived.Test.YtbpmmabdjabfcaaScriptWakes
import Derived.Test.YtbpmmabdjabfcaaScriptRefParse
import Derived.Test.YtbpmmabdjabfcaaScriptOpn
/- ScriptPrints: any job has words just if it is told by words; then it is parsed from them as it was. Written by wip/scriptlaws.py. -/
namespace Go.Proofs.Ytbpmmabdjabfcaa.Script
open Go.RowKit Go.Proofs.YtbpmmabdjabfcaaW.PrintWords Go.Proofs.YtbpmmabdjabfcaaW.PrintLast Go.Proofs.YtbpmmabdjabfcaaW.PrintMore Go.Proofs.Ytbpmmabdjabfcaa.Box Go.Proofs.Ytbpmmabdjabfcaa.PT Go.Proofs.Ytbpmmabdjabfcaa.Table
set_option linter.unusedSimpArgs false
set_option linter.unusedVariables false
set_option maxRecDepth 20000 in
set_option maxHeartbeats 8000000 in
theorem ScriptPrints_go {w : World} {j : Job} {X0 : Option Addr} {cX0 : Nat} {X1 : Option Addr} {cX1 : Nat} {X2 : Option Addr} {cX2 : Nat} {X3 : Option Addr} {cX3 : Nat} {X4 : Option Addr} {cX4 : Nat} {X5 : Option Addr} {cX5 : Nat} (h : IsJob w j X0 cX0 X1 cX1 X2 cX2 X3 cX3 X4 cX4 X5 cX5) (hg : GoodJ j) (h1 : j.streams.length ≤ 9223372036854775807) (h2 : j.acts.length ≤ 9223372036854775807) (h3 : ∀ l ∈ j.streams, l.length ≤ 9223372036854775807) :
    Calls Try.prog 8 #[.agg #[.slice X0 j.cfg.ps.length cX0, .slice X1 j.cfg.xs.length cX1, .int .i64 j.cfg.l0, .slice X2 j.cfg.ws0.length cX2, .int .i64 j.cfg.l1, .slice X3 j.cfg.ws1.length cX3, .slice X4 j.streams.length cX4, .slice X5 j.acts.length cX5]] w fun e w' => e = .returned (.bool true) ∧ Below w.heap.size w w' := by
  have HWK := Aside0.mk (fun (W : World) => wakes25 W)
  have HP := Aside0.mk (SK.start w (.slice X0 j.cfg.ps.length cX0) (.slice X1 j.cfg.xs.length cX1) (.int .i64 j.cfg.l0) (.slice X2 j.cfg.ws0.length cX2) (.int .i64 j.cfg.l1) (.slice X3 j.cfg.ws1.length cX3) (.slice X4 j.streams.length cX4) (.slice X5 j.acts.length cX5))
  have HI := Aside0.mk h
  have HGR := Aside0.mk (fun (X : World) (hX : Below w.heap.size w X) => great_job (h.below hX) h1 h3)
  have HPR := Aside0.mk (fun (X : World) (hX : Below w.heap.size w X) => print_job (h.below hX) hg h1 h2)
  have htd := fun (X : World) (hX : Below w.heap.size w X) => told_job (h.below hX) h1 h2
  obtain ⟨tj, htj⟩ : ∃ t, toldJ j = t := ⟨_, rfl⟩
  rw [htj] at htd
  have HTD := Aside0.mk htd
  have HNT : Aside0 (tj = false → jobW j = []) := ⟨fun e => jobW_not hg (htj.trans e)⟩
  have HYT : Aside0 (tj = true → jobW j = jobL j ∧ Words (jobL j) ∧ (jobL j).length ≤ 1000000 ∧ jobE (jobL j) = 0 ∧ jobJ (jobL j) = j ∧ ShortJ j) := ⟨fun e => by
    have e2 := htj.trans e
    obtain ⟨a, b⟩ := jobW_told hg e2
    obtain ⟨c, d⟩ := job_back hg e2
    obtain ⟨g0, g1, g2, g3⟩ := (few_iff j.cfg).1 b
    exact ⟨a, jobL_words hg e2, jobL_len e2 b, c, d, short_told ⟨by omega, by omega, by omega, by omega⟩ (told_parts e2).2.1⟩⟩
  clear h hg h1 h2 h3 htj htd
  go_enter Try.func8, Try.ntmps8
  go_wp2_with fail
  refine (HWK.out _).mono ?_
  rintro e w2 ⟨rfl, hbw⟩
  have HP2 := Aside0.mk (HP.out.to hbw)
  clear hbw HWK HP
  have hx0 := HP2.out.a0
  have hx1 := HP2.out.a1
  have hx2 := HP2.out.a2
  have hx3 := HP2.out.a3
  have hx4 := HP2.out.a4
  have hx5 := HP2.out.a5
  have hx6 := HP2.out.a6
  have hx7 := HP2.out.a7
  go_wp2_with fail
  refine (HGR.out _ HP2.out.bel).mono ?_
  rintro e w3 ⟨b, rfl, _, hbw⟩
  have HP3 := Aside0.mk (HP2.out.to hbw)
  clear hbw HGR HP2
  clear hx0 hx1 hx2 hx3 hx4 hx5 hx6 hx7
  cases b with
  | true =>
    go_wp2
    go_ret
    exact ⟨rfl, HP3.out.bel⟩
  | false =>
    have hx0 := HP3.out.a0
    have hx1 := HP3.out.a1
    have hx2 := HP3.out.a2
    have hx3 := HP3.out.a3
    have hx4 := HP3.out.a4
    have hx5 := HP3.out.a5
    have hx6 := HP3.out.a6
    have hx7 := HP3.out.a7
    go_wp2_with fail
    refine (HPR.out _ HP3.out.bel).mono ?_
    rintro e w4 ⟨B, k, rfl, hkb, hcb, hbw⟩
    have HP4 := Aside0.mk (HP3.out.to hbw)
    have HKB := Aside0.mk hkb
    have HCB := Aside0.mk hcb
    obtain ⟨lj, hlj⟩ : ∃ n, (jobW j).length = n := ⟨_, rfl⟩
    rw [hlj]
    have HLJ := Aside0.mk hlj
    clear hbw HPR HP3 hkb hcb hlj
    clear hx0 hx1 hx2 hx3 hx4 hx5 hx6 hx7
    have hx0 := HP4.out.a0
    have hx1 := HP4.out.a1
    have hx2 := HP4.out.a2
    have hx3 := HP4.out.a3
    have hx4 := HP4.out.a4
    have hx5 := HP4.out.a5
    have hx6 := HP4.out.a6
    have hx7 := HP4.out.a7
    go_wp2_with fail
    refine (HTD.out _ HP4.out.bel).mono ?_
    rintro e w5 ⟨rfl, hbw⟩
    have HP5 := Aside0.mk (HP4.out.to hbw)
    have HCB5 := Aside0.mk (Kd.C_below HCB.out hbw)
    clear hbw HTD HP4 HCB
    clear hx0 hx1 hx2 hx3 hx4 hx5 hx6 hx7
    cases tj with
    | false =>
      have e0 : ((lj : Int) == 0) = true := by
        have h1 := HLJ.out
        rw [HNT.out rfl] at h1
        subst h1
        rfl
      go_wp2
      go_ret
      exact ⟨rfl, HP5.out.bel⟩
    | true =>
      obtain ⟨a1, a2, a3, a4, a5, a6⟩ := HYT.out rfl
      have hc5 := HCB5.out
      have hk5 := HKB.out
      have hl5 := HLJ.out
      rw [a1] at hc5 hk5 hl5
      obtain ⟨rj1, rj2⟩ := rj_job (jobL j) a2
      have hpa := fun (X : World) (hX : Below w5.heap.size w5 X) => parse_job B k (jobL j) X a2 a3 hk5 (Kd.C_below hc5 hX)
      have hrp := fun (X : World) (hX : Below w5.heap.size w5 X) => refparse_job B k (jobL j) X a2 a3 hk5 (Kd.C_below hc5 hX)
      rw [rj1, rj2, a4, a5, hl5] at hrp
      rw [a4, a5, hl5] at hpa
      have HPA := Aside0.mk hpa
      have HRP := Aside0.mk hrp
      have HSH := Aside0.mk a6
      clear a1 a2 a3 a4 a5 a6 hc5 hk5 hl5 rj1 rj2 hpa hrp HNT HYT HCB5 HKB HLJ
      go_wp2_with fail
      refine (HPA.out _ (Below.refl _ _)).mono ?_
      rintro e w6 ⟨cs6, rfl, h1, h2⟩
      obtain ⟨A0, cA0, A1, cA1, A2, cA2, A3, cA3, A4, cA4, A5, cA5, rfl, hj⟩ := JobOwn.job h1
      have hb3 := below_alloc (Below.refl _ w6) (.cells #[.slice A0 j.cfg.ps.length cA0, .slice A1 j.cfg.xs.length cA1, .int .i64 j.cfg.l0, .slice A2 j.cfg.ws0.length cA2, .int .i64 j.cfg.l1, .slice A3 j.cfg.ws1.length cA3, .slice A4 j.streams.length cA4, .slice A5 j.acts.length cA5] 48)
      have hbb := h2.trans (hb3.mono h2.size)
      have HJ7 := Aside0.mk (hj.below hb3)
      have HG7 := Aside0.mk (blk_new w6 (.cells #[.slice A0 j.cfg.ps.length cA0, .slice A1 j.cfg.xs.length cA1, .int .i64 j.cfg.l0, .slice A2 j.cfg.ws0.length cA2, .int .i64 j.cfg.l1, .slice A3 j.cfg.ws1.length cA3, .slice A4 j.streams.length cA4, .slice A5 j.acts.length cA5] 48))
      have HP7 := Aside0.mk (HP5.out.to hbb)
      have HB7 := Aside0.mk hbb
      clear h1 h2 hj hb3 hbb HPA
      go_upto_region 9 with fail
      generalize w6.alloc (.cells #[.slice A0 j.cfg.ps.length cA0, .slice A1 j.cfg.xs.length cA1, .int .i64 j.cfg.l0, .slice A2 j.cfg.ws0.length cA2, .int .i64 j.cfg.l1, .slice A3 j.cfg.ws1.length cA3, .slice A4 j.streams.length cA4, .slice A5 j.acts.length cA5] 48) = w7 at *
      generalize w6.heap.size = ga at *
      go_wp2_with fail
      refine (HRP.out _ HB7.out).mono ?_
      rintro e w8 ⟨cs8, rfl, h1, h2⟩
      obtain ⟨D0, cD0, D1, cD1, D2, cD2, D3, cD3, D4, cD4, D5, cD5, rfl, hj⟩ := JobOwn.job h1
      have hb3 := below_alloc (Below.refl _ w8) (.cells #[.slice D0 j.cfg.ps.length cD0, .slice D1 j.cfg.xs.length cD1, .int .i64 j.cfg.l0, .slice D2 j.cfg.ws0.length cD2, .int .i64 j.cfg.l1, .slice D3 j.cfg.ws1.length cD3, .slice D4 j.streams.length cD4, .slice D5 j.acts.length cD5] 48)
      have hbb := h2.trans (hb3.mono h2.size)
      have HX9 := Aside0.mk (HJ7.out.below hbb)
      have HJ9 := Aside0.mk (hj.below hb3)
      have HG9 := Aside0.mk (blk_below HG7.out hbb)
      have HD9 := Aside0.mk (blk_new w8 (.cells #[.slice D0 j.cfg.ps.length cD0, .slice D1 j.cfg.xs.length cD1, .int .i64 j.cfg.l0, .slice D2 j.cfg.ws0.length cD2, .int .i64 j.cfg.l1, .slice D3 j.cfg.ws1.length cD3, .slice D4 j.streams.length cD4, .slice D5 j.acts.length cD5] 48))
      have HP9 := Aside0.mk (HP7.out.to hbb)
      clear h1 h2 hj hb3 hbb HRP HB7 HJ7 HG7 HP7
      go_upto_region 10 with fail
      have hs := refsame_job HX9.out (HI.out.below HP9.out.bel) HSH.out
      rw [decide_eq_true (rfl : j = j)] at hs
      have HS := Aside0.mk hs
      clear hs
      generalize w8.alloc (.cells #[.slice D0 j.cfg.ps.length cD0, .slice D1 j.cfg.xs.length cD1, .int .i64 j.cfg.l0, .slice D2 j.cfg.ws0.length cD2, .int .i64 j.cfg.l1, .slice D3 j.cfg.ws1.length cD3, .slice D4 j.streams.length cD4, .slice D5 j.acts.length cD5] 48) = w9 at *
      generalize w8.heap.size = gb at *
      have hx0 := HP9.out.a0
      have hx1 := HP9.out.a1
      have hx2 := HP9.out.a2
      have hx3 := HP9.out.a3
      have hx4 := HP9.out.a4
      have hx5 := HP9.out.a5
      have hx6 := HP9.out.a6
      have hx7 := HP9.out.a7
      have ha0 := (blk_cell HG9.out 0).trans rfl
      have ha1 := (blk_cell HG9.out 1).trans rfl
      have ha2 := (blk_cell HG9.out 2).trans rfl
      have ha3 := (blk_cell HG9.out 3).trans rfl
      have ha4 := (blk_cell HG9.out 4).trans rfl
      have ha5 := (blk_cell HG9.out 5).trans rfl
      have ha6 := (blk_cell HG9.out 6).trans rfl
      have ha7 := (blk_cell HG9.out 7).trans rfl
      have hb0 := (blk_cell HD9.out 0).trans rfl
      have hb1 := (blk_cell HD9.out 1).trans rfl
      have hb2 := (blk_cell HD9.out 2).trans rfl
      have hb3 := (blk_cell HD9.out 3).trans rfl
      have hb4 := (blk_cell HD9.out 4).trans rfl
      have hb5 := (blk_cell HD9.out 5).trans rfl
      have hb6 := (blk_cell HD9.out 6).trans rfl
      have hb7 := (blk_cell HD9.out 7).trans rfl
      go_wp2_with fail
      refine HS.out.mono ?_
      rintro e w10 ⟨rfl, hbw⟩
      have HP10 := Aside0.mk (HP9.out.to hbw)
      have HD10 := Aside0.mk (blk_below HD9.out hbw)
      have hs := refsame_job (HJ9.out.below hbw) (HI.out.below HP10.out.bel) HSH.out
      rw [decide_eq_true (rfl : j = j)] at hs
      have HS2 := Aside0.mk hs
      clear hs hbw HS HX9 HJ9 HG9 HP9 HD9
      clear hx0 hx1 hx2 hx3 hx4 hx5 hx6 hx7
      clear ha0 ha1 ha2 ha3 ha4 ha5 ha6 ha7
      clear hb0 hb1 hb2 hb3 hb4 hb5 hb6 hb7
      have hx0 := HP10.out.a0
      have hx1 := HP10.out.a1
      have hx2 := HP10.out.a2
      have hx3 := HP10.out.a3
      have hx4 := HP10.out.a4
      have hx5 := HP10.out.a5
      have hx6 := HP10.out.a6
      have hx7 := HP10.out.a7
      have hb0 := (blk_cell HD10.out 0).trans rfl
      have hb1 := (blk_cell HD10.out 1).trans rfl
      have hb2 := (blk_cell HD10.out 2).trans rfl
      have hb3 := (blk_cell HD10.out 3).trans rfl
      have hb4 := (blk_cell HD10.out 4).trans rfl
      have hb5 := (blk_cell HD10.out 5).trans rfl
      have hb6 := (blk_cell HD10.out 6).trans rfl
      have hb7 := (blk_cell HD10.out 7).trans rfl
      go_wp2_with fail
      refine HS2.out.mono ?_
      rintro e w11 ⟨rfl, hbw⟩
      have HP11 := Aside0.mk (HP10.out.to hbw)
      clear hbw HS2 HD10 HP10
      go_wp2
      go_ret
      exact ⟨rfl, HP11.out.bel⟩
theorem ScriptPrints_walk (W : World) (csa : Array Value) (x : JT) (hK : kJob.K W x (Value.agg csa).cells.toList) (hV : VJ x) :
    Calls Try.prog 8 #[.agg csa] W fun e w' => e = .returned (.bool true) ∧ Below W.heap.size W w' := by
  obtain ⟨A0, c0, A1, c1, A2, c2, A3, c3, A4, c4, A5, c5, rfl, h⟩ := isJob_of hK
  obtain ⟨l1, l2, l3, _⟩ := lens_of hV
  exact ScriptPrints_go h (good_of hV) l1 l2 l3
end Go.Proofs.Ytbpmmabdjabfcaa.Script
