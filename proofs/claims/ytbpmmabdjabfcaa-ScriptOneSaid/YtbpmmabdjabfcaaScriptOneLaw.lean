import Derived.Test.YtbpmmabdjabfcaaScriptWakes
/- ScriptOne: what is parsed has just these words. Written by wip/scriptlaws.py. -/
namespace Go.Proofs.Ytbpmmabdjabfcaa.Script
open Go.RowKit Go.Proofs.YtbpmmabdjabfcaaW.PrintWords Go.Proofs.YtbpmmabdjabfcaaW.PrintLast Go.Proofs.YtbpmmabdjabfcaaW.PrintMore Go.Proofs.Ytbpmmabdjabfcaa.Box Go.Proofs.Ytbpmmabdjabfcaa.PT Go.Proofs.Ytbpmmabdjabfcaa.Table
set_option linter.unusedSimpArgs false
set_option linter.unusedVariables false
set_option maxRecDepth 20000 in
set_option maxHeartbeats 4000000 in
theorem words_same (A : Option Addr) (c : Nat) (la : List Int) (B : Option Addr) (d : Nat) (lb : List Int) (w : World) (ha : Kd.C (Kd.int .u32) w A la.length la) (hb : Kd.C (Kd.int .u32) w B lb.length lb) (hn : la.length ≤ 9223372036854775807) :
    Calls Try.prog 21 #[.slice A la.length c, .slice B lb.length d] w fun e w' => e = .returned (.bool (decide (la = lb))) ∧ Below w.heap.size w w' := by
  obtain ⟨r, hr⟩ : ∃ r, decide (la = lb) = r := ⟨_, rfl⟩
  have HR : Aside0 ((la ≠ lb → r = false) ∧ (la = lb → r = true)) := ⟨fun h => by rw [← hr]; exact decide_eq_false h, fun h => by rw [← hr]; exact decide_eq_true h⟩
  rw [hr]
  obtain ⟨p, hp⟩ : ∃ n, la.length = n := ⟨_, rfl⟩
  obtain ⟨q, hq⟩ : ∃ n, lb.length = n := ⟨_, rfl⟩
  have HPQ := Aside0.mk (And.intro hp hq)
  rw [hp] at ha hn ⊢
  rw [hq] at hb ⊢
  have HA := Aside0.mk ha
  have HB := Aside0.mk hb
  have HW := Aside0.mk (Below.refl w.heap.size w)
  clear hr hp hq ha hb
  by_cases g : p = q
  · subst g
    have q0 : ((p : Int) != (p : Int)) = false := by simp
    go_enter Try.func21, Try.ntmps21
    go_wp2_with fail
    clear q0
    go_loopw [5] (fun v wr => ∃ x : Int, 0 ≤ x ∧ x ≤ p ∧ v = .int .i64 x ∧ Aside0 (la.take x.toNat = lb.take x.toNat) ∧ Aside0 (Below w.heap.size w wr)) (fun v _ => p - (intOf v).toNat)
    case atStart => exact ⟨0, by omega, by omega, rfl, ⟨rfl⟩, HW⟩
    case round =>
      clear HW
      obtain ⟨x, hx0, hx1, rfl, HT, HX⟩ := hrel
      by_cases hlt : x < p
      · have hd : decide (x < (p : Int)) = true := decide_eq_true hlt
        obtain ⟨ad, e1, hu⟩ := Kd.at_int HA.out x hx0 hlt
        cases e1
        obtain ⟨bd, e2, hv⟩ := Kd.at_int HB.out x hx0 hlt
        cases e2
        have hu := pw_cell_below HX.out hu
        have hv := pw_cell_below HX.out hv
        have HS : Aside0 (rd la x = rd lb x → la.take (x + 1).toNat = lb.take (x + 1).toNat) := ⟨take_succ_of 0 la lb hx0 (by rw [HPQ.out.1]; exact hlt) (by rw [HPQ.out.2]; exact hlt) HT.out⟩
        have HNE : Aside0 (rd la x ≠ rd lb x → r = false) := ⟨fun h => HR.out.1 (fun e => h (by rw [e]))⟩
        generalize rd la x = u at *
        generalize rd lb x = v at *
        have p0 := eq_true hx0
        have p1 := eq_true hlt
        by_cases he : u = v
        · have e0 : (u != v) = false := by simp [he]
          have HY := Aside0.mk (HS.out he)
          clear he HS HNE HT
          go_wp2_with fail
          go_quiet (fail)
          have HX2 : Aside0 (Below w.heap.size w (wr.drewN nq)) := ⟨pw_below_drewN HX.out nq⟩
          clear hu hv
          go_wp2
          go_roundw
          case rel => exact ⟨x + 1, by omega, by omega, by go_num, HY, HX2⟩
          case measure => simp [intOf]; omega
        · have e0 : (u != v) = true := by simp [he]
          have HF := Aside0.mk (HNE.out he)
          clear he HS HNE HT
          go_wp2_with fail
          go_quiet (fail)
          have HX2 : Aside0 (Below w.heap.size w (wr.drewN nq)) := ⟨pw_below_drewN HX.out nq⟩
          go_wp2
          go_ret
          exact ⟨by rw [HF.out]; rfl, HX2.out⟩
      · obtain rfl : x = (p : Int) := by omega
        have hd : decide ((p : Int) < (p : Int)) = false := decide_eq_false (by omega)
        have HF := Aside0.mk (HR.out.2 (take_all_of HPQ.out.1 HPQ.out.2 HT.out))
        clear HT hx0 hx1 hlt
        go_wp2
        go_ret
        exact ⟨by rw [HF.out]; rfl, HX.out⟩
  · have q0 : ((p : Int) != (q : Int)) = true := by simp; omega
    have HF : Aside0 (r = false) := ⟨HR.out.1 (fun e => g (by rw [← HPQ.out.1, ← HPQ.out.2, e]))⟩
    clear g
    go_enter Try.func21, Try.ntmps21
    go_wp2
    go_ret
    exact ⟨by rw [HF.out]; rfl, HW.out⟩
set_option maxRecDepth 20000 in
set_option maxHeartbeats 8000000 in
theorem ScriptOne_walk (W : World) (A : Option Addr) (n c : Nat) (ws : List Int) (hK : (Kd.slice 43 (Kd.int .u32)).K W ws (Value.slice A n c).cells.toList) (_hV : ws.length ≤ maxLen ∧ ∀ x ∈ ws, (Lit.int .u32 x).wf = true) :
    Calls Try.prog 9 #[.slice A n c] W fun e w' => e = .returned (.bool true) ∧ Below W.heap.size W w' := by
  obtain ⟨A', c', he, hc, hr⟩ := hK
  simp only [Value.cells, List.cons.injEq, Value.slice.injEq, and_true] at he
  obtain ⟨rfl, rfl, rfl⟩ := he
  have hw := words_of _hV.2
  clear _hV
  have HWK := Aside0.mk (fun (W : World) => wakes25 W)
  by_cases hbig : 1500 < ws.length
  · have hd : decide ((1500 : Int) < (ws.length : Int)) = true := decide_eq_true (by omega)
    clear hw hc hr
    generalize ws.length = len at *
    go_enter Try.func9, Try.ntmps9
    go_wp2_with fail
    refine (HWK.out _).mono ?_
    rintro e w2 ⟨rfl, hbw⟩
    have HB := Aside0.mk hbw
    clear hbw
    go_wp2
    go_ret
    exact ⟨rfl, HB.out⟩
  · have hd : decide ((1500 : Int) < (ws.length : Int)) = false := decide_eq_false (by omega)
    have HPA := Aside0.mk (fun (X : World) (hX : Below W.heap.size W X) => parse_job A c ws X hw (by omega) hc (Kd.C_below hr hX))
    have HSH := Aside0.mk (short_parsed hw)
    have HON := Aside0.mk (fun (h : jobE ws = 0) => job_one ws hw h)
    have HZJ : Aside0 (¬ jobE ws = 0 → jobJ ws = zjob) := ⟨fun h => by unfold jobJ; rw [if_neg h]⟩
    have hsw := fun (B : Option Addr) (k : Nat) (X : World) (hX : Below W.heap.size W X) (hb : Kd.C (Kd.int .u32) X B ws.length ws) => words_same B k ws A c ws X hb (Kd.C_below hr hX) (by omega)
    rw [decide_eq_true (rfl : ws = ws)] at hsw
    obtain ⟨len, hlen⟩ : ∃ l, ws.length = l := ⟨_, rfl⟩
    have HLN := Aside0.mk hlen
    rw [hlen] at HPA hsw hd ⊢
    have HSW := Aside0.mk hsw
    clear hw hc hr hbig hlen hsw
    generalize jobE ws = E at *
    generalize jobJ ws = jb at *
    go_enter Try.func9, Try.ntmps9
    go_wp2_with fail
    refine (HWK.out _).mono ?_
    rintro e w2 ⟨rfl, hbw⟩
    have HB := Aside0.mk hbw
    clear hbw HWK
    go_wp2_with fail
    refine (HPA.out _ HB.out).mono ?_
    rintro e w3 ⟨csa, rfl, h1, h2⟩
    obtain ⟨A0, cA0, A1, cA1, A2, cA2, A3, cA3, A4, cA4, A5, cA5, rfl, hj⟩ := JobOwn.job h1
    have hb3 := below_alloc (Below.refl _ w3) (.cells #[.slice A0 jb.cfg.ps.length cA0, .slice A1 jb.cfg.xs.length cA1, .int .i64 jb.cfg.l0, .slice A2 jb.cfg.ws0.length cA2, .int .i64 jb.cfg.l1, .slice A3 jb.cfg.ws1.length cA3, .slice A4 jb.streams.length cA4, .slice A5 jb.acts.length cA5] 48)
    have HJ4 := Aside0.mk (hj.below hb3)
    have HG4 := Aside0.mk (blk_new w3 (.cells #[.slice A0 jb.cfg.ps.length cA0, .slice A1 jb.cfg.xs.length cA1, .int .i64 jb.cfg.l0, .slice A2 jb.cfg.ws0.length cA2, .int .i64 jb.cfg.l1, .slice A3 jb.cfg.ws1.length cA3, .slice A4 jb.streams.length cA4, .slice A5 jb.acts.length cA5] 48))
    have hb2 := HB.out.trans (h2.mono HB.out.size)
    have HB4 := Aside0.mk (hb2.trans (hb3.mono hb2.size))
    clear h1 h2 hj hb3 hb2 HPA HB
    go_upto_region 6 with fail
    generalize w3.alloc (.cells #[.slice A0 jb.cfg.ps.length cA0, .slice A1 jb.cfg.xs.length cA1, .int .i64 jb.cfg.l0, .slice A2 jb.cfg.ws0.length cA2, .int .i64 jb.cfg.l1, .slice A3 jb.cfg.ws1.length cA3, .slice A4 jb.streams.length cA4, .slice A5 jb.acts.length cA5] 48) = w4 at *
    generalize w3.heap.size = ga at *
    by_cases hE : E = 0
    · have e0 : (E != 0) = false := by simp [hE]
      obtain ⟨hg, hjw, _⟩ := HON.out hE
      have hpr := print_job HJ4.out hg HSH.out.st HSH.out.ac
      rw [hjw] at hpr
      have HPR := Aside0.mk hpr
      clear hE hg hjw hpr HON HZJ HJ4
      have ha0 := (blk_cell HG4.out 0).trans rfl
      have ha1 := (blk_cell HG4.out 1).trans rfl
      have ha2 := (blk_cell HG4.out 2).trans rfl
      have ha3 := (blk_cell HG4.out 3).trans rfl
      have ha4 := (blk_cell HG4.out 4).trans rfl
      have ha5 := (blk_cell HG4.out 5).trans rfl
      have ha6 := (blk_cell HG4.out 6).trans rfl
      have ha7 := (blk_cell HG4.out 7).trans rfl
      go_wp2_with fail
      refine HPR.out.mono ?_
      rintro e w5 ⟨B, k, rfl, _, hcb, hbw⟩
      rw [HLN.out] at hcb ⊢
      have HB5 := Aside0.mk (HB4.out.trans (hbw.mono HB4.out.size))
      have HCB := Aside0.mk hcb
      clear hcb hbw HPR HB4 HG4
      clear ha0 ha1 ha2 ha3 ha4 ha5 ha6 ha7
      go_wp2_with fail
      refine (HSW.out B k _ HB5.out HCB.out).mono ?_
      rintro e w6 ⟨rfl, hbw⟩
      have HB6 := Aside0.mk (HB5.out.trans (hbw.mono HB5.out.size))
      clear hbw HSW HB5 HCB
      go_wp2
      go_ret
      exact ⟨rfl, HB6.out⟩
    · have e0 : (E != 0) = true := by simp [hE]
      obtain rfl := HZJ.out hE
      have hs := refsame_job HJ4.out (isJob_zero _) short_zero
      rw [decide_eq_true (rfl : zjob = zjob)] at hs
      have HS := Aside0.mk hs
      clear hE HON HZJ hs HJ4
      have ha0 := (blk_cell HG4.out 0).trans rfl
      have ha1 := (blk_cell HG4.out 1).trans rfl
      have ha2 := (blk_cell HG4.out 2).trans rfl
      have ha3 := (blk_cell HG4.out 3).trans rfl
      have ha4 := (blk_cell HG4.out 4).trans rfl
      have ha5 := (blk_cell HG4.out 5).trans rfl
      have ha6 := (blk_cell HG4.out 6).trans rfl
      have ha7 := (blk_cell HG4.out 7).trans rfl
      go_wp2_with fail
      refine HS.out.mono ?_
      rintro e w5 ⟨rfl, hbw⟩
      have HB5 := Aside0.mk (HB4.out.trans (hbw.mono HB4.out.size))
      clear hbw HS HB4 HG4
      go_wp2
      go_ret
      exact ⟨rfl, HB5.out⟩
end Go.Proofs.Ytbpmmabdjabfcaa.Script
