import Derived.Test.YtbpmmabdjabfcaaTableArg
import Derived.Test.YtbpmmabdjabfcaaTableRefSame
import Derived.Test.YtbpmmabdjabfcaaTableWakes
import Derived.Test.YtbpmmabdjabfcaaTablePrint
import Derived.Test.YtbpmmabdjabfcaaTablePure
import Derived.Test.YtbpmmabdjabfcaaTableRefParse
/- Package portholelaw06: the law TablePrints: any configuration has words just if it is told by words; then it is parsed from them as it was. Written by wip/tableprintslaw.py. -/
namespace Go.Proofs.Ytbpmmabdjabfcaa.Table
open Go.RowKit Go.Proofs.YtbpmmabdjabfcaaW.PrintWords Go.Proofs.YtbpmmabdjabfcaaW.PrintLast Go.Proofs.YtbpmmabdjabfcaaW.PrintMore Go.Proofs.Ytbpmmabdjabfcaa.Box Go.Proofs.Ytbpmmabdjabfcaa.PT Go.Proofs.Ytbpmmabdjabfcaa.Opn
set_option linter.unusedSimpArgs false
set_option linter.unusedVariables false
theorem few_short {c : Cfg} (h : fewB c = true) : Short c := by
  have := (few_iff c).1 h
  exact ⟨by omega, by omega, by omega, by omega⟩
set_option maxRecDepth 20000 in
set_option maxHeartbeats 4000000 in
theorem TablePrints_go {w : World} {c : Cfg} {cs : Array Value} (h : IsCfg w c cs) (hbt : Boots c) :
    Calls Try.prog 5 #[.agg cs] w fun e w' => e = .returned (.bool true) ∧ Below w.heap.size w w' := by
  have HI := Aside0.mk h
  have HGR := Aside0.mk (fun (X : World) (hX : Below w.heap.size w X) => great_calls (isCfg_below h hX))
  have HPR := Aside0.mk (fun (X : World) (hX : Below w.heap.size w X) => print_calls (isCfg_below h hX) hbt)
  have HTD := Aside0.mk (fun (X : World) (hX : Below w.heap.size w X) => told_calls (isCfg_below h hX))
  have HWK := Aside0.mk (fun (W : World) => wakes_calls W)
  have hpn : toldB c = false → printL c = [] := fun ht => printL_not c hbt ht
  have hpt : toldB c = true → printL c = numsL c ∧ Words (numsL c) ∧ fewB c = true := fun ht => printL_told c hbt ht
  have HPN := Aside0.mk hpn
  have HPT := Aside0.mk hpt
  have HLN := Aside0.mk (printL_len c)
  obtain ⟨A0, n0, c0, A1, n1, c1, l0, A2, n2, c2, l1, A3, n3, c3, rfl⟩ := isCfg_any h
  have HP0 := Aside0.mk (SB.start w (.slice A0 n0 c0) (.slice A1 n1 c1) (.int .i64 l0) (.slice A2 n2 c2) (.int .i64 l1) (.slice A3 n3 c3))
  clear h hpn hpt
  generalize greatB c = gb at *
  generalize toldB c = tb at *
  go_enter Try.func5, Try.ntmps5
  go_wp2_with fail
  refine (HWK.out _).mono ?_
  rintro e w2 ⟨rfl, hbw⟩
  have HP2 := Aside0.mk (HP0.out.to hbw)
  clear hbw HP0 HWK
  have ha0 := HP2.out.a0
  have ha1 := HP2.out.a1
  have ha2 := HP2.out.a2
  have ha3 := HP2.out.a3
  have ha4 := HP2.out.a4
  have ha5 := HP2.out.a5
  go_wp2_with fail
  refine (HGR.out _ HP2.out.bel).mono ?_
  rintro e w3 ⟨rfl, hbw⟩
  have HP3 := Aside0.mk (HP2.out.to hbw)
  clear hbw HP2 HGR ha0 ha1 ha2 ha3 ha4 ha5
  have ha0 := HP3.out.a0
  have ha1 := HP3.out.a1
  have ha2 := HP3.out.a2
  have ha3 := HP3.out.a3
  have ha4 := HP3.out.a4
  have ha5 := HP3.out.a5
  cases gb with
  | true =>
    go_wp2
    go_ret
    exact ⟨rfl, HP3.out.bel⟩
  | false =>
    go_wp2_with fail
    refine (HPR.out _ HP3.out.bel).mono ?_
    rintro e w4 ⟨Ap, kp, rfl, hkp, hrp, hbw⟩
    have HP4 := Aside0.mk (HP3.out.to hbw)
    have HKP := Aside0.mk hkp
    have HRP := Aside0.mk hrp
    clear hbw HP3 HPR ha0 ha1 ha2 ha3 ha4 ha5 hkp hrp
    have ha0 := HP4.out.a0
    have ha1 := HP4.out.a1
    have ha2 := HP4.out.a2
    have ha3 := HP4.out.a3
    have ha4 := HP4.out.a4
    have ha5 := HP4.out.a5
    generalize hpl : printL c = pl at *
    have HPL := Aside0.mk hpl
    clear hpl
    obtain ⟨len, hlen⟩ : ∃ l, pl.length = l := ⟨_, rfl⟩
    rw [hlen] at HKP HRP ⊢
    have HLE := Aside0.mk hlen
    clear hlen
    go_wp2_with fail
    refine (HTD.out _ HP4.out.bel).mono ?_
    rintro e w5 ⟨rfl, hbw⟩
    have HP5 := Aside0.mk (HP4.out.to hbw)
    have HRP5 := Aside0.mk (Kd.C_below HRP.out hbw)
    clear hbw HP4 HTD HRP ha0 ha1 ha2 ha3 ha4 ha5
    have ha0 := HP5.out.a0
    have ha1 := HP5.out.a1
    have ha2 := HP5.out.a2
    have ha3 := HP5.out.a3
    have ha4 := HP5.out.a4
    have ha5 := HP5.out.a5
    cases tb with
    | false =>
      have hz := HLE.out
      rw [HPN.out rfl] at hz
      obtain rfl : 0 = len := hz
      skip
      go_wp2
      go_ret
      exact ⟨rfl, HP5.out.bel⟩
    | true =>
      obtain ⟨hp1, hp2, hp3⟩ := HPT.out rfl
      have HE := Aside0.mk (parseE_nums c hp3)
      have HR := Aside0.mk (parseR_nums c hp3)
      have HSH := Aside0.mk (few_short hp3)
      subst hp1
      have hwd := hp2
      have hkp := HKP.out
      rw [← HLE.out] at hkp
      have hll := HLN.out
      have HPA := Aside0.mk (fun (X : World) (hX : Below w5.heap.size w5 X) => parse_calls Ap kp (numsL c) X hwd hkp (by rw [HLE.out]; exact Kd.C_below HRP5.out hX))
      have HRA := Aside0.mk (fun (X : World) (hX : Below w5.heap.size w5 X) => refparse_calls Ap kp (numsL c) X hwd hkp hll (by rw [HLE.out]; exact Kd.C_below HRP5.out hX))
      rw [HLE.out, HE.out, HR.out] at HPA HRA
      clear hp2 hp3 hwd hkp hll HPL
      go_wp2_with fail
      refine (HPA.out _ (Below.refl _ _)).mono ?_
      rintro e w6 ⟨csb, rfl, h1, h2⟩
      have h3 := h1
      obtain ⟨B0, m0, d0, B1, m1, d1, k0, B2, m2, d2, k1, B3, m3, d3, rfl⟩ := isCfg_any h3
      have hb7 := h2.trans ((below_alloc (Below.refl _ w6) (.cells #[.slice B0 m0 d0, .slice B1 m1 d1, .int .i64 k0, .slice B2 m2 d2, .int .i64 k1, .slice B3 m3 d3] 31)).mono h2.size)
      have HI7 := Aside0.mk (isCfg_below h1 (below_alloc (Below.refl _ w6) (.cells #[.slice B0 m0 d0, .slice B1 m1 d1, .int .i64 k0, .slice B2 m2 d2, .int .i64 k1, .slice B3 m3 d3] 31)))
      have HG7 := Aside0.mk (blk_new w6 (.cells #[.slice B0 m0 d0, .slice B1 m1 d1, .int .i64 k0, .slice B2 m2 d2, .int .i64 k1, .slice B3 m3 d3] 31))
      have HP7 := Aside0.mk (HP5.out.to hb7)
      have HB7 := Aside0.mk hb7
      clear h1 h2 h3 hb7 HPA
      go_wp2_with fail
      refine (HRA.out _ HB7.out).mono ?_
      rintro e w8 ⟨csd, rfl, h1, h2⟩
      have h3 := h1
      obtain ⟨D0, o0, e0, D1, o1, e1, j0, D2, o2, e2, j1, D3, o3, e3, rfl⟩ := isCfg_any h3
      have hb9 := h2.trans ((below_alloc (Below.refl _ w8) (.cells #[.slice D0 o0 e0, .slice D1 o1 e1, .int .i64 j0, .slice D2 o2 e2, .int .i64 j1, .slice D3 o3 e3] 31)).mono h2.size)
      have HX9 := Aside0.mk (isCfg_below HI7.out hb9)
      have HG9 := Aside0.mk (blk_below HG7.out hb9)
      have HI9 := Aside0.mk (isCfg_below h1 (below_alloc (Below.refl _ w8) (.cells #[.slice D0 o0 e0, .slice D1 o1 e1, .int .i64 j0, .slice D2 o2 e2, .int .i64 j1, .slice D3 o3 e3] 31)))
      have HD9 := Aside0.mk (blk_new w8 (.cells #[.slice D0 o0 e0, .slice D1 o1 e1, .int .i64 j0, .slice D2 o2 e2, .int .i64 j1, .slice D3 o3 e3] 31))
      have HP9 := Aside0.mk (HP7.out.to hb9)
      clear h1 h2 h3 hb9 HRA HB7 HI7 HG7 HP7 ha0 ha1 ha2 ha3 ha4 ha5
      go_upto_region 10 with fail
      generalize w8.alloc (.cells #[.slice D0 o0 e0, .slice D1 o1 e1, .int .i64 j0, .slice D2 o2 e2, .int .i64 j1, .slice D3 o3 e3] 31) = w9 at *
      have ha0 := HP9.out.a0
      have ha1 := HP9.out.a1
      have ha2 := HP9.out.a2
      have ha3 := HP9.out.a3
      have ha4 := HP9.out.a4
      have ha5 := HP9.out.a5
      have hb0 : w9.cell? ⟨w6.heap.size, 0, none⟩ = some (.slice B0 m0 d0) := (blk_cell HG9.out 0).trans rfl
      have hb1 : w9.cell? ⟨w6.heap.size, 1, none⟩ = some (.slice B1 m1 d1) := (blk_cell HG9.out 1).trans rfl
      have hb2 : w9.cell? ⟨w6.heap.size, 2, none⟩ = some (.int .i64 k0) := (blk_cell HG9.out 2).trans rfl
      have hb3 : w9.cell? ⟨w6.heap.size, 3, none⟩ = some (.slice B2 m2 d2) := (blk_cell HG9.out 3).trans rfl
      have hb4 : w9.cell? ⟨w6.heap.size, 4, none⟩ = some (.int .i64 k1) := (blk_cell HG9.out 4).trans rfl
      have hb5 : w9.cell? ⟨w6.heap.size, 5, none⟩ = some (.slice B3 m3 d3) := (blk_cell HG9.out 5).trans rfl
      have hd0 : w9.cell? ⟨w8.heap.size, 0, none⟩ = some (.slice D0 o0 e0) := (blk_cell HD9.out 0).trans rfl
      have hd1 : w9.cell? ⟨w8.heap.size, 1, none⟩ = some (.slice D1 o1 e1) := (blk_cell HD9.out 1).trans rfl
      have hd2 : w9.cell? ⟨w8.heap.size, 2, none⟩ = some (.int .i64 j0) := (blk_cell HD9.out 2).trans rfl
      have hd3 : w9.cell? ⟨w8.heap.size, 3, none⟩ = some (.slice D2 o2 e2) := (blk_cell HD9.out 3).trans rfl
      have hd4 : w9.cell? ⟨w8.heap.size, 4, none⟩ = some (.int .i64 j1) := (blk_cell HD9.out 4).trans rfl
      have hd5 : w9.cell? ⟨w8.heap.size, 5, none⟩ = some (.slice D3 o3 e3) := (blk_cell HD9.out 5).trans rfl
      have HS9 := Aside0.mk (refsame_calls HX9.out (isCfg_below HI.out HP9.out.bel) HSH.out)
      have hq : decide (c = c) = true := decide_eq_true rfl
      rw [hq] at HS9
      clear hq
      go_wp2_with fail
      refine HS9.out.mono ?_
      rintro e w10 ⟨rfl, hbw⟩
      have HPx := Aside0.mk (HP9.out.to hbw)
      have HGx := Aside0.mk (blk_below HD9.out hbw)
      have HS10 := refsame_calls (isCfg_below HI9.out hbw) (isCfg_below (isCfg_below HI.out HP9.out.bel) hbw) HSH.out
      rw [decide_eq_true (show c = c from rfl)] at HS10
      have HSx := Aside0.mk HS10
      clear hbw HS9 HS10 ha0 ha1 ha2 ha3 ha4 ha5 hb0 hb1 hb2 hb3 hb4 hb5 hd0 hd1 hd2 hd3 hd4 hd5
      have ha0 := HPx.out.a0
      have ha1 := HPx.out.a1
      have ha2 := HPx.out.a2
      have ha3 := HPx.out.a3
      have ha4 := HPx.out.a4
      have ha5 := HPx.out.a5
      have hd0 : w10.cell? ⟨w8.heap.size, 0, none⟩ = some (.slice D0 o0 e0) := (blk_cell HGx.out 0).trans rfl
      have hd1 : w10.cell? ⟨w8.heap.size, 1, none⟩ = some (.slice D1 o1 e1) := (blk_cell HGx.out 1).trans rfl
      have hd2 : w10.cell? ⟨w8.heap.size, 2, none⟩ = some (.int .i64 j0) := (blk_cell HGx.out 2).trans rfl
      have hd3 : w10.cell? ⟨w8.heap.size, 3, none⟩ = some (.slice D2 o2 e2) := (blk_cell HGx.out 3).trans rfl
      have hd4 : w10.cell? ⟨w8.heap.size, 4, none⟩ = some (.int .i64 j1) := (blk_cell HGx.out 4).trans rfl
      have hd5 : w10.cell? ⟨w8.heap.size, 5, none⟩ = some (.slice D3 o3 e3) := (blk_cell HGx.out 5).trans rfl
      go_wp2_with fail
      refine HSx.out.mono ?_
      rintro e w11 ⟨rfl, hbw⟩
      have HPy := Aside0.mk (HPx.out.to hbw)
      clear hbw
      go_wp2
      go_ret
      exact ⟨rfl, HPy.out.bel⟩
theorem TablePrints_walk (W : World) (csa : Array Value) (x : List S64 × List S68 × (Int × List S72) × (Int × List S72)) (hK : kCfg.K W x (Value.agg csa).cells.toList) (hV : VC x) :
    Calls Try.prog 5 #[.agg csa] W fun e w' => e = .returned (.bool true) ∧ Below W.heap.size W w' :=
  TablePrints_go (isCfg_of hK) (fun y hy => bounds_u32 ((hV.2.1.2 y hy).2.2.2.2.2.2))
end Go.Proofs.Ytbpmmabdjabfcaa.Table
