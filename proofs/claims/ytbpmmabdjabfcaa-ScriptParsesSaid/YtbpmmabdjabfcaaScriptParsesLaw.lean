import Derived.Test.YtbpmmabdjabfcaaScriptWakes
import Derived.Test.YtbpmmabdjabfcaaScriptRefParse
import Derived.Test.YtbpmmabdjabfcaaScriptSame
/- ScriptParses: any words are the job that the document says, or have the first error. Written by wip/scriptlaws.py. -/
namespace Go.Proofs.Ytbpmmabdjabfcaa.Script
open Go.RowKit Go.Proofs.YtbpmmabdjabfcaaW.PrintWords Go.Proofs.YtbpmmabdjabfcaaW.PrintLast Go.Proofs.YtbpmmabdjabfcaaW.PrintMore Go.Proofs.Ytbpmmabdjabfcaa.Box Go.Proofs.Ytbpmmabdjabfcaa.PT Go.Proofs.Ytbpmmabdjabfcaa.Table
set_option linter.unusedSimpArgs false
set_option linter.unusedVariables false
set_option maxRecDepth 20000 in
set_option maxHeartbeats 8000000 in
theorem ScriptParses_walk (W : World) (A : Option Addr) (n c : Nat) (ws : List Int) (hK : (Kd.slice 43 (Kd.int .u32)).K W ws (Value.slice A n c).cells.toList) (_hV : ws.length ≤ maxLen ∧ ∀ x ∈ ws, (Lit.int .u32 x).wf = true) :
    Calls Try.prog 11 #[.slice A n c] W fun e w' => e = .returned (.bool true) ∧ Below W.heap.size W w' := by
  obtain ⟨A', c', he, hc, hr⟩ := hK
  simp only [Value.cells, List.cons.injEq, Value.slice.injEq, and_true] at he
  obtain ⟨rfl, rfl, rfl⟩ := he
  have hw := words_of _hV.2
  clear _hV
  have HWK := Aside0.mk (fun (W : World) => wakes25 W)
  by_cases hbig : 1500 < ws.length
  · have hd : decide ((1500 : Int) < (ws.length : Int)) = true := decide_eq_true (by omega)
    clear hw hc hr
    generalize ws.length = len at *
    go_enter Try.func11, Try.ntmps11
    go_wp2_with fail
    refine (HWK.out _).mono ?_
    rintro e w2 ⟨rfl, hbw⟩
    have HB := Aside0.mk hbw
    clear hbw
    go_wp2
    go_ret
    exact ⟨rfl, HB.out⟩
  · have hd : decide ((1500 : Int) < (ws.length : Int)) = false := decide_eq_false (by omega)
    obtain ⟨rj1, rj2⟩ := rj_job ws hw
    have HPA := Aside0.mk (fun (X : World) (hX : Below W.heap.size W X) => parse_job A c ws X hw (by omega) hc (Kd.C_below hr hX))
    have hrp := fun (X : World) (hX : Below W.heap.size W X) => refparse_job A c ws X hw (by omega) hc (Kd.C_below hr hX)
    rw [rj1, rj2] at hrp
    have HRP := Aside0.mk hrp
    have HSH := Aside0.mk (short_parsed hw)
    clear hw hc hr hrp rj1 rj2
    obtain ⟨len, hlen⟩ : ∃ l, ws.length = l := ⟨_, rfl⟩
    rw [hlen] at HPA HRP hd ⊢
    clear hlen hbig
    generalize jobE ws = E at *
    generalize jobJ ws = jb at *
    go_enter Try.func11, Try.ntmps11
    go_wp2_with fail
    refine (HWK.out _).mono ?_
    rintro e w2 ⟨rfl, hbw⟩
    have HB := Aside0.mk hbw
    clear hbw HWK
    go_wp2_with fail
    refine (HPA.out _ HB.out).mono ?_
    rintro e w3 ⟨csa, rfl, h1, h2⟩
    obtain ⟨A0, cA0, A1, cA1, A2, cA2, A3, cA3, A4, cA4, A5, cA5, rfl, hj⟩ := JobOwn.job h1
    have hb3 := below_alloc (Below.refl _ w3) (.cells #[.slice A0 jb.cfg.ps.length cA0, .slice A1 jb.cfg.xs.length cA1, .int .i64 jb.cfg.l0, .slice A2 jb.cfg.ws0.length cA2, .int .i64 jb.cfg.l1, .slice A3 jb.cfg.ws1.length cA3, .slice A4 jb.streams.length cA4, .slice A5 jb.acts.length cA5] 48)
    have HJ4 := Aside0.mk (hj.below hb3)
    have HG4 := Aside0.mk (blk_new w3 (.cells #[.slice A0 jb.cfg.ps.length cA0, .slice A1 jb.cfg.xs.length cA1, .int .i64 jb.cfg.l0, .slice A2 jb.cfg.ws0.length cA2, .int .i64 jb.cfg.l1, .slice A3 jb.cfg.ws1.length cA3, .slice A4 jb.streams.length cA4, .slice A5 jb.acts.length cA5] 48))
    have hb2 := HB.out.trans (h2.mono HB.out.size)
    have HB4 := Aside0.mk (hb2.trans (hb3.mono hb2.size))
    clear h1 h2 hj hb3 hb2 HPA HB
    go_upto_region 6 with fail
    generalize w3.alloc (.cells #[.slice A0 jb.cfg.ps.length cA0, .slice A1 jb.cfg.xs.length cA1, .int .i64 jb.cfg.l0, .slice A2 jb.cfg.ws0.length cA2, .int .i64 jb.cfg.l1, .slice A3 jb.cfg.ws1.length cA3, .slice A4 jb.streams.length cA4, .slice A5 jb.acts.length cA5] 48) = w4 at *
    generalize w3.heap.size = ga at *
    go_wp2_with fail
    refine (HRP.out _ HB4.out).mono ?_
    rintro e w5 ⟨csb, rfl, h1, h2⟩
    obtain ⟨B0, cB0, B1, cB1, B2, cB2, B3, cB3, B4, cB4, B5, cB5, rfl, hj⟩ := JobOwn.job h1
    have hb3 := below_alloc (Below.refl _ w5) (.cells #[.slice B0 jb.cfg.ps.length cB0, .slice B1 jb.cfg.xs.length cB1, .int .i64 jb.cfg.l0, .slice B2 jb.cfg.ws0.length cB2, .int .i64 jb.cfg.l1, .slice B3 jb.cfg.ws1.length cB3, .slice B4 jb.streams.length cB4, .slice B5 jb.acts.length cB5] 48)
    have HX6 := Aside0.mk ((HJ4.out.below h2).below hb3)
    have HJ6 := Aside0.mk (hj.below hb3)
    have HG6 := Aside0.mk (blk_below (blk_below HG4.out h2) hb3)
    have HD6 := Aside0.mk (blk_new w5 (.cells #[.slice B0 jb.cfg.ps.length cB0, .slice B1 jb.cfg.xs.length cB1, .int .i64 jb.cfg.l0, .slice B2 jb.cfg.ws0.length cB2, .int .i64 jb.cfg.l1, .slice B3 jb.cfg.ws1.length cB3, .slice B4 jb.streams.length cB4, .slice B5 jb.acts.length cB5] 48))
    have hb2 := HB4.out.trans (h2.mono HB4.out.size)
    have HB6 := Aside0.mk (hb2.trans (hb3.mono hb2.size))
    clear h1 h2 hj hb3 hb2 HRP HB4 HJ4 HG4
    go_upto_region 7 with fail
    have HS6 := Aside0.mk (refsame_job HX6.out HJ6.out HSH.out)
    rw [decide_eq_true (rfl : jb = jb)] at HS6
    generalize w5.alloc (.cells #[.slice B0 jb.cfg.ps.length cB0, .slice B1 jb.cfg.xs.length cB1, .int .i64 jb.cfg.l0, .slice B2 jb.cfg.ws0.length cB2, .int .i64 jb.cfg.l1, .slice B3 jb.cfg.ws1.length cB3, .slice B4 jb.streams.length cB4, .slice B5 jb.acts.length cB5] 48) = w6 at *
    generalize w5.heap.size = gb at *
    have hE : (E == E) = true := by simp
    have ha0 := (blk_cell HG6.out 0).trans rfl
    have ha1 := (blk_cell HG6.out 1).trans rfl
    have ha2 := (blk_cell HG6.out 2).trans rfl
    have ha3 := (blk_cell HG6.out 3).trans rfl
    have ha4 := (blk_cell HG6.out 4).trans rfl
    have ha5 := (blk_cell HG6.out 5).trans rfl
    have ha6 := (blk_cell HG6.out 6).trans rfl
    have ha7 := (blk_cell HG6.out 7).trans rfl
    have hb0 := (blk_cell HD6.out 0).trans rfl
    have hb1 := (blk_cell HD6.out 1).trans rfl
    have hb2 := (blk_cell HD6.out 2).trans rfl
    have hb3 := (blk_cell HD6.out 3).trans rfl
    have hb4 := (blk_cell HD6.out 4).trans rfl
    have hb5 := (blk_cell HD6.out 5).trans rfl
    have hb6 := (blk_cell HD6.out 6).trans rfl
    have hb7 := (blk_cell HD6.out 7).trans rfl
    go_wp2_with fail
    refine HS6.out.mono ?_
    rintro e w7 ⟨rfl, hbw⟩
    have HS7 := same_job (HX6.out.below hbw) (HJ6.out.below hbw) HSH.out
    rw [decide_eq_true (rfl : jb = jb)] at HS7
    have HS8 := Aside0.mk HS7
    have HG7 := Aside0.mk (blk_below HG6.out hbw)
    have HD7 := Aside0.mk (blk_below HD6.out hbw)
    have HB7 := Aside0.mk (HB6.out.trans (hbw.mono HB6.out.size))
    clear hbw HS7 HS6 HX6 HJ6 HG6 HD6 HB6 HSH
    clear ha0 ha1 ha2 ha3 ha4 ha5 ha6 ha7
    clear hb0 hb1 hb2 hb3 hb4 hb5 hb6 hb7
    have ha0 := (blk_cell HG7.out 0).trans rfl
    have ha1 := (blk_cell HG7.out 1).trans rfl
    have ha2 := (blk_cell HG7.out 2).trans rfl
    have ha3 := (blk_cell HG7.out 3).trans rfl
    have ha4 := (blk_cell HG7.out 4).trans rfl
    have ha5 := (blk_cell HG7.out 5).trans rfl
    have ha6 := (blk_cell HG7.out 6).trans rfl
    have ha7 := (blk_cell HG7.out 7).trans rfl
    have hb0 := (blk_cell HD7.out 0).trans rfl
    have hb1 := (blk_cell HD7.out 1).trans rfl
    have hb2 := (blk_cell HD7.out 2).trans rfl
    have hb3 := (blk_cell HD7.out 3).trans rfl
    have hb4 := (blk_cell HD7.out 4).trans rfl
    have hb5 := (blk_cell HD7.out 5).trans rfl
    have hb6 := (blk_cell HD7.out 6).trans rfl
    have hb7 := (blk_cell HD7.out 7).trans rfl
    go_wp2_with fail
    refine HS8.out.mono ?_
    rintro e w8 ⟨rfl, hbw⟩
    have HB8 := Aside0.mk (HB7.out.trans (hbw.mono HB7.out.size))
    clear hbw HS8 HG7 HD7 HB7
    go_wp2
    go_ret
    exact ⟨rfl, HB8.out⟩
end Go.Proofs.Ytbpmmabdjabfcaa.Script
