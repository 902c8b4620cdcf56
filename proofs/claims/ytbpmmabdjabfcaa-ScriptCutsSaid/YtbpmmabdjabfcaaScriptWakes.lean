import Derived.Test.YtbpmmabdjabfcaaScriptPure
import Derived.Test.YtbpmmabdjabfcaaScriptRefSame
import Derived.Test.YtbpmmabdjabfcaaTableArg
/- The law's example: nine words are an empty job, and its words. Written by wip/scriptlaws.py. -/
namespace Go.Proofs.Ytbpmmabdjabfcaa.Script
open Go.RowKit Go.Proofs.YtbpmmabdjabfcaaW.PrintWords Go.Proofs.YtbpmmabdjabfcaaW.PrintLast Go.Proofs.YtbpmmabdjabfcaaW.PrintMore Go.Proofs.Ytbpmmabdjabfcaa.Box Go.Proofs.Ytbpmmabdjabfcaa.PT Go.Proofs.Ytbpmmabdjabfcaa.Table
set_option linter.unusedSimpArgs false
set_option linter.unusedVariables false
theorem good_zero : GoodJ zjob := ⟨(fun y hy => by cases hy), (fun l hl => by cases hl), (fun l hl => by cases hl)⟩
theorem short_zero : ShortJ zjob := ⟨⟨Nat.zero_le _, Nat.zero_le _, Nat.zero_le _, Nat.zero_le _⟩, Nat.zero_le _, Nat.zero_le _, (fun l hl => by cases hl), (fun l hl => by cases hl)⟩
theorem told_zero : toldJ zjob = true := by decide +kernel
theorem jobL_zero : jobL zjob = [6, 0, 0, 0, 0, 0, 0, 0, 0] := rfl
theorem isJob_zero (w : World) : IsJob w zjob none 0 none 0 none 0 none 0 none 0 none 0 := ⟨isCfg_zero w, Nat.le_refl _, Kd.C_nil _ _, Nat.le_refl _, Kd.C_nil _ _⟩
theorem short_told {j : Job} (hc : Short j.cfg) (h : toldP j = true) : ShortJ j := by
  unfold toldP at h
  simp only [Bool.and_eq_true, decide_eq_true_iff] at h
  refine ⟨hc, by omega, by omega, fun l hl => ?_, fun l hl q hq => ?_⟩
  · have h1 := List.all_eq_true.1 h.2.2 l hl
    unfold okL at h1
    simp only [Bool.and_eq_true, decide_eq_true_iff] at h1
    omega
  · have h1 := List.all_eq_true.1 h.2.2 l hl
    unfold okL at h1
    simp only [Bool.and_eq_true, decide_eq_true_iff] at h1
    have h2 := List.all_eq_true.1 h1.2 q hq
    unfold okQ at h2
    simp only [Bool.and_eq_true, decide_eq_true_iff] at h2
    omega
theorem short_parsed {ws : List Int} (hw : Words ws) : ShortJ (jobJ ws) := by
  by_cases h : jobE ws = 0
  · refine short_told ?_ (job_one ws hw h).2.2
    unfold jobJ
    rw [if_pos h]
    show Short (cfP ⟨ws, false, 0⟩).1
    unfold cfP
    split
    · split
      · exact short_zero.cfg
      · exact parseC_short
    · exact short_zero.cfg
  · unfold jobJ
    rw [if_neg h]
    exact short_zero
set_option maxRecDepth 20000 in
set_option maxHeartbeats 4000000 in
theorem wakes25 (w : World) : Calls Try.prog 22 #[] w fun e w' => e = .returned (.bool true) ∧ Below w.heap.size w w' := by
  have hb0 := below_alloc (Below.refl _ w) (.cells #[.int .u32 6, .int .u32 0, .int .u32 0, .int .u32 0, .int .u32 0, .int .u32 0, .int .u32 0, .int .u32 0, .int .u32 0] 43)
  have hc0 := nums_C [6, 0, 0, 0, 0, 0, 0, 0, 0] (by simp) (blk_new w (.cells #[.int .u32 6, .int .u32 0, .int .u32 0, .int .u32 0, .int .u32 0, .int .u32 0, .int .u32 0, .int .u32 0, .int .u32 0] 43))
  have hj := job_back good_zero told_zero
  rw [jobL_zero] at hj
  have hp := parse_job (some ⟨w.heap.size, 0, none⟩) 9 [6, 0, 0, 0, 0, 0, 0, 0, 0] (w.alloc (.cells #[.int .u32 6, .int .u32 0, .int .u32 0, .int .u32 0, .int .u32 0, .int .u32 0, .int .u32 0, .int .u32 0, .int .u32 0] 43)) (fun x hx => by simp at hx; omega) (by decide) (by decide) hc0
  rw [hj.1, hj.2] at hp
  have HP := Aside0.mk hp
  have HB0 := Aside0.mk hb0
  have hw9 := jobW_told good_zero told_zero
  have HPR : Aside0 (∀ X : World, Calls Try.prog 24 #[.agg #[.slice none 0 0, .slice none 0 0, .int .i64 0, .slice none 0 0, .int .i64 0, .slice none 0 0, .slice none 0 0, .slice none 0 0]] X fun e w' => ∃ B k, e = .returned (.slice B 9 k) ∧ Below X.heap.size X w') := ⟨fun X => by
    have h := print_job (isJob_zero X) good_zero (Nat.zero_le _) (Nat.zero_le _)
    rw [hw9.1, jobL_zero] at h
    exact h.mono (fun e w' ⟨B, k, h1, _, _, h4⟩ => ⟨B, k, h1, h4⟩)⟩
  clear hb0 hc0 hj hp hw9
  go_enter Try.func22, Try.ntmps22
  go_wp2_with fail
  refine HP.out.mono ?_
  rintro e w3 ⟨cs, rfl, h1, h2⟩
  obtain ⟨A0, cA0, A1, cA1, A2, cA2, A3, cA3, A4, cA4, A5, cA5, rfl, hj⟩ := JobOwn.job h1
  have hb3 := below_alloc (Below.refl _ w3) (.cells #[.slice A0 zjob.cfg.ps.length cA0, .slice A1 zjob.cfg.xs.length cA1, .int .i64 zjob.cfg.l0, .slice A2 zjob.cfg.ws0.length cA2, .int .i64 zjob.cfg.l1, .slice A3 zjob.cfg.ws1.length cA3, .slice A4 zjob.streams.length cA4, .slice A5 zjob.acts.length cA5] 48)
  have HJ := Aside0.mk (hj.below hb3)
  have HG := Aside0.mk (blk_new w3 (.cells #[.slice A0 zjob.cfg.ps.length cA0, .slice A1 zjob.cfg.xs.length cA1, .int .i64 zjob.cfg.l0, .slice A2 zjob.cfg.ws0.length cA2, .int .i64 zjob.cfg.l1, .slice A3 zjob.cfg.ws1.length cA3, .slice A4 zjob.streams.length cA4, .slice A5 zjob.acts.length cA5] 48))
  have HB3 := Aside0.mk (HB0.out.trans (h2.mono HB0.out.size))
  have HB4 := Aside0.mk (HB3.out.trans (hb3.mono HB3.out.size))
  clear h1 h2 hj hb3 HP HB0
  go_upto_region 2 with fail
  have HS := Aside0.mk (refsame_job HJ.out (isJob_zero _) short_zero)
  rw [decide_eq_true (rfl : zjob = zjob)] at HS
  generalize w3.alloc (.cells #[.slice A0 zjob.cfg.ps.length cA0, .slice A1 zjob.cfg.xs.length cA1, .int .i64 zjob.cfg.l0, .slice A2 zjob.cfg.ws0.length cA2, .int .i64 zjob.cfg.l1, .slice A3 zjob.cfg.ws1.length cA3, .slice A4 zjob.streams.length cA4, .slice A5 zjob.acts.length cA5] 48) = w4 at *
  generalize w3.heap.size = g at *
  have ha0 := (blk_cell HG.out 0).trans rfl
  have ha1 := (blk_cell HG.out 1).trans rfl
  have ha2 := (blk_cell HG.out 2).trans rfl
  have ha3 := (blk_cell HG.out 3).trans rfl
  have ha4 := (blk_cell HG.out 4).trans rfl
  have ha5 := (blk_cell HG.out 5).trans rfl
  have ha6 := (blk_cell HG.out 6).trans rfl
  have ha7 := (blk_cell HG.out 7).trans rfl
  go_wp2_with fail
  refine HS.out.mono ?_
  rintro e w5 ⟨rfl, hbw⟩
  have HB5 := Aside0.mk (HB4.out.trans (hbw.mono HB4.out.size))
  clear hbw HS HG HJ HB3 HB4
  clear ha0 ha1 ha2 ha3 ha4 ha5 ha6 ha7
  go_wp2_with fail
  refine (HPR.out _).mono ?_
  rintro e w6 ⟨B, k, rfl, hbw⟩
  have HB6 := Aside0.mk (HB5.out.trans (hbw.mono HB5.out.size))
  clear hbw HPR HB5
  go_wp2
  go_ret
  exact ⟨rfl, HB6.out⟩
end Go.Proofs.Ytbpmmabdjabfcaa.Script
