import Derived.Test.YtbpmmabdjabfcaaScriptWakes
import Derived.Test.YtbpmmabdjabfcaaScriptOpn
/- ScriptCuts: of a job's words none of the beginnings is one's, nor is what has a word more. Written by wip/scriptlaws.py. -/
namespace Go.Proofs.Ytbpmmabdjabfcaa.Script
open Go.RowKit Go.Proofs.YtbpmmabdjabfcaaW.PrintWords Go.Proofs.YtbpmmabdjabfcaaW.PrintLast Go.Proofs.YtbpmmabdjabfcaaW.PrintMore Go.Proofs.Ytbpmmabdjabfcaa.Box Go.Proofs.Ytbpmmabdjabfcaa.PT Go.Proofs.Ytbpmmabdjabfcaa.Table
set_option linter.unusedSimpArgs false
set_option linter.unusedVariables false
theorem jobL_len9 {j : Job} (h : toldJ j = true) (hf : fewB j.cfg = true) : (jobL j).length ≤ 900000 := by
  obtain ⟨_, _, h3, h4, _, h6⟩ := told_parts h
  obtain ⟨g0, g1, g2, g3⟩ := (few_iff j.cfg).1 hf
  have hl := flat_len fL 4417 j.streams (fun l hl => by
    obtain ⟨a, b⟩ := okL_parts (List.all_eq_true.1 h6 l hl)
    have h2 := flat_len fQ 69 l (fun u hu => by
      have h5 := (okQ_parts (b u hu)).2.2
      unfold fQ
      simp only [List.length_cons]
      omega)
    unfold fL
    rw [List.length_cons]
    omega)
  unfold jobL restL
  simp only [List.length_cons, List.length_append, numsL_len]
  unfold cntW
  omega
theorem Words.take {ws : List Int} (h : Words ws) (k : Nat) : Words (ws.take k) := fun x hx => h x (List.mem_of_mem_take hx)
theorem Words.snoc {ws : List Int} (h : Words ws) {m : Int} (hm : 0 ≤ m ∧ m ≤ 4294967295) : Words (ws ++ [m]) := fun x hx => by
  rcases List.mem_append.1 hx with h1 | h1
  · exact h x h1
  · obtain rfl : x = m := by simpa using h1
    exact hm
set_option maxRecDepth 20000 in
set_option maxHeartbeats 8000000 in
theorem ScriptCuts_go {w : World} {j : Job} {X0 : Option Addr} {cX0 : Nat} {X1 : Option Addr} {cX1 : Nat} {X2 : Option Addr} {cX2 : Nat} {X3 : Option Addr} {cX3 : Nat} {X4 : Option Addr} {cX4 : Nat} {X5 : Option Addr} {cX5 : Nat} (h : IsJob w j X0 cX0 X1 cX1 X2 cX2 X3 cX3 X4 cX4 X5 cX5) (hg : GoodJ j) (h1 : j.streams.length ≤ 9223372036854775807) (h2 : j.acts.length ≤ 9223372036854775807) (h3 : ∀ l ∈ j.streams, l.length ≤ 9223372036854775807) (n m : Int) (hn : 0 ≤ n ∧ n ≤ 65535) (hmw : 0 ≤ m ∧ m ≤ 4294967295) :
    Calls Try.prog 10 #[.agg #[.slice X0 j.cfg.ps.length cX0, .slice X1 j.cfg.xs.length cX1, .int .i64 j.cfg.l0, .slice X2 j.cfg.ws0.length cX2, .int .i64 j.cfg.l1, .slice X3 j.cfg.ws1.length cX3, .slice X4 j.streams.length cX4, .slice X5 j.acts.length cX5], .int .u16 n, .int .u32 m] w fun e w' => e = .returned (.bool true) ∧ Below w.heap.size w w' := by
  have HWK := Aside0.mk (fun (W : World) => wakes25 W)
  have HP := Aside0.mk (SK.start w (.slice X0 j.cfg.ps.length cX0) (.slice X1 j.cfg.xs.length cX1) (.int .i64 j.cfg.l0) (.slice X2 j.cfg.ws0.length cX2) (.int .i64 j.cfg.l1) (.slice X3 j.cfg.ws1.length cX3) (.slice X4 j.streams.length cX4) (.slice X5 j.acts.length cX5))
  have HGR := Aside0.mk (fun (X : World) (hX : Below w.heap.size w X) => great_job (h.below hX) h1 h3)
  have HPR := Aside0.mk (fun (X : World) (hX : Below w.heap.size w X) => print_job (h.below hX) hg h1 h2)
  have htd := fun (X : World) (hX : Below w.heap.size w X) => told_job (h.below hX) h1 h2
  obtain ⟨tj, htj⟩ : ∃ t, toldJ j = t := ⟨_, rfl⟩
  rw [htj] at htd
  have HTD := Aside0.mk htd
  have HMW := Aside0.mk hmw
  have HYT : Aside0 (tj = true → jobW j = jobL j ∧ Words (jobL j) ∧ (jobL j).length ≤ 900000 ∧ 9 ≤ (jobL j).length ∧ (∀ k, k < (jobL j).length → jobE ((jobL j).take k) = 8) ∧ jobE (jobL j ++ [m]) = 9) := ⟨fun e => by
    have e2 := htj.trans e
    obtain ⟨a, b⟩ := jobW_told hg e2
    refine ⟨a, jobL_words hg e2, jobL_len9 e2 b, ?_, fun k hk => job_cut hg e2 k hk, job_more hg e2 m⟩
    unfold jobL restL
    simp only [List.length_cons, List.length_append, numsL_len]
    unfold cntW
    omega⟩
  clear h hg h1 h2 h3 htj htd hmw
  go_enter Try.func10, Try.ntmps10
  go_wp2_with fail
  refine (HWK.out _).mono ?_
  rintro e w2 ⟨rfl, hbw⟩
  have HP2 := Aside0.mk (HP.out.to hbw)
  clear hbw HWK HP
  have hx0 := HP2.out.a0
  have hx1 := HP2.out.a1
  have hx2 := HP2.out.a2
  have hx3 := HP2.out.a3
  have hx4 := HP2.out.a4
  have hx5 := HP2.out.a5
  have hx6 := HP2.out.a6
  have hx7 := HP2.out.a7
  go_wp2_with fail
  refine (HGR.out _ HP2.out.bel).mono ?_
  rintro e w3 ⟨b, rfl, _, hbw⟩
  have HP3 := Aside0.mk (HP2.out.to hbw)
  clear hbw HGR HP2
  clear hx0 hx1 hx2 hx3 hx4 hx5 hx6 hx7
  cases b with
  | true =>
    go_wp2
    go_ret
    exact ⟨rfl, HP3.out.bel⟩
  | false =>
    have hx0 := HP3.out.a0
    have hx1 := HP3.out.a1
    have hx2 := HP3.out.a2
    have hx3 := HP3.out.a3
    have hx4 := HP3.out.a4
    have hx5 := HP3.out.a5
    have hx6 := HP3.out.a6
    have hx7 := HP3.out.a7
    go_wp2_with fail
    refine (HTD.out _ HP3.out.bel).mono ?_
    rintro e w4 ⟨rfl, hbw⟩
    have HP4 := Aside0.mk (HP3.out.to hbw)
    clear hbw HTD HP3
    clear hx0 hx1 hx2 hx3 hx4 hx5 hx6 hx7
    cases tj with
    | false =>
      go_wp2
      go_ret
      exact ⟨rfl, HP4.out.bel⟩
    | true =>
      obtain ⟨a1, a2, a3, a4, a5, a6⟩ := HYT.out rfl
      have hpp := HPR.out _ HP4.out.bel
      rw [a1] at hpp
      have HPP := Aside0.mk hpp
      have HW := Aside0.mk a2
      have HLM := Aside0.mk a3
      have HL9 := Aside0.mk a4
      have HCUT := Aside0.mk a5
      have HMORE := Aside0.mk a6
      clear a1 a2 a3 a4 a5 a6 hpp HPR HYT
      generalize jobL j = l at *
      have hx0 := HP4.out.a0
      have hx1 := HP4.out.a1
      have hx2 := HP4.out.a2
      have hx3 := HP4.out.a3
      have hx4 := HP4.out.a4
      have hx5 := HP4.out.a5
      have hx6 := HP4.out.a6
      have hx7 := HP4.out.a7
      go_wp2_with fail
      refine HPP.out.mono ?_
      rintro e w5 ⟨Ap, kp, rfl, hkp, hrp, hbw⟩
      have HP5 := Aside0.mk (HP4.out.to hbw)
      clear HP4 HPP hbw
      clear hx0 hx1 hx2 hx3 hx4 hx5 hx6 hx7
      have hl9 := HL9.out
      have hlm := HLM.out
      obtain ⟨ad, rfl, _⟩ := hrp.2.2 (by omega)
      have HRP := Aside0.mk hrp
      obtain ⟨k, hk⟩ : ∃ k, n.toNat % l.length = k := ⟨_, rfl⟩
      have hkl : k < l.length := by rw [← hk]; exact Nat.mod_lt _ (by omega)
      have hkc : k ≤ kp := by omega
      have hPA := fun (X : World) (hX : Below w5.heap.size w5 X) => parse_job (some ad) kp (l.take k) X (Words.take HW.out k) (by rw [List.length_take]; omega) (by rw [List.length_take]; omega) (Kd.C_below (Kd.C_take hrp (by omega)) hX)
      rw [HCUT.out k hkl, show (l.take k).length = k by rw [List.length_take]; omega] at hPA
      have HPA := Aside0.mk hPA
      have hrem : n.tmod (l.length : Int) = (k : Int) := by
        rw [Int.tmod_eq_emod_of_nonneg hn.1, ← hk, Int.natCast_emod, Int.toNat_of_nonneg hn.1]
      obtain ⟨len, hlen⟩ : ∃ x, l.length = x := ⟨_, rfl⟩
      have HLE := Aside0.mk hlen
      rw [hlen] at hrem hl9 hlm hkl hkp ⊢
      have hd : decide (len < 9) = false := decide_eq_false (by omega)
      have hd' : decide ((len : Int) < 9) = false := decide_eq_false (by omega)
      have hz : ((len : Int) == 0) = false := by simp; omega
      have hcv : IntKind.i64.wrap n = n := by rw [i64_w]; unfold wrap64; omega
      have hk0 : (0 : Int) ≤ (k : Int) := by omega
      have hk1 : (k : Int) ≤ (kp : Int) := by omega
      clear hrp hPA hk hlen
      go_wp2_with fail
      refine (HPA.out _ (Below.refl _ _)).mono ?_
      rintro e w6 ⟨csb, rfl, h1, h2⟩
      generalize jobJ (l.take k) = jb at *
      obtain ⟨A0, cA0, A1, cA1, A2, cA2, A3, cA3, A4, cA4, A5, cA5, rfl, hj⟩ := JobOwn.job h1
      have hb7 := h2.trans ((below_alloc (Below.refl _ w6) (.cells #[.slice A0 jb.cfg.ps.length cA0, .slice A1 jb.cfg.xs.length cA1, .int .i64 jb.cfg.l0, .slice A2 jb.cfg.ws0.length cA2, .int .i64 jb.cfg.l1, .slice A3 jb.cfg.ws1.length cA3, .slice A4 jb.streams.length cA4, .slice A5 jb.acts.length cA5] 48)).mono h2.size)
      have HP7 := Aside0.mk (HP5.out.to hb7)
      have HR7 : Aside0 (Kd.C (Kd.int .u32) (w6.alloc (.cells #[.slice A0 jb.cfg.ps.length cA0, .slice A1 jb.cfg.xs.length cA1, .int .i64 jb.cfg.l0, .slice A2 jb.cfg.ws0.length cA2, .int .i64 jb.cfg.l1, .slice A3 jb.cfg.ws1.length cA3, .slice A4 jb.streams.length cA4, .slice A5 jb.acts.length cA5] 48)) (some ad) len l) := ⟨by have h := Kd.C_below HRP.out hb7; rw [HLE.out] at h; exact h⟩
      have hu22 := Try.underlying22
      clear h1 h2 hb7 HPA HP5 HRP hrem hcv hk0 hk1 hd hd' hz hj
      go_upto_region 9 with fail
      generalize w6.alloc (.cells #[.slice A0 jb.cfg.ps.length cA0, .slice A1 jb.cfg.xs.length cA1, .int .i64 jb.cfg.l0, .slice A2 jb.cfg.ws0.length cA2, .int .i64 jb.cfg.l1, .slice A3 jb.cfg.ws1.length cA3, .slice A4 jb.streams.length cA4, .slice A5 jb.acts.length cA5] 48) = w7 at *
      go_wp2_with (at_builtin; refine Kd.R_append_rows (Kd.int .u32) (w0 := w7) w7.heap.size rfl (.tmp 38) (.tmp 39) 22 43 (.int .u32 0) 4 rfl hu22 info_W rfl (by decide) (by omega) (.slice (some ⟨w7.heap.size, 0, none⟩) 0 0) ([] : List Int) l _ _ _ (fun _ => True) (fun _ => False) rfl rfl ?aO ?aR (fun _ _ h => h) (fun _ h => h.elim) ?aF ?aB ?aS ?aL ?_)
      case aO => exact R_void _ _ _
      case aR => exact Kd.C_alloc HR7.out _
      case aF => exact fun _ _ => trivial
      case aB => exact below_alloc (Below.refl _ _) _
      case aS => simp
      case aL => simp; omega
      intro v1 w8 h1 h2 h3 h4
      obtain ⟨A8, n8, c8, rfl⟩ : ∃ A n c, v1 = .slice A n c := by
        obtain ⟨A, c, h⟩ := Kd.R_slice h1
        exact ⟨A, _, c, h⟩
      have HR8 := Aside0.mk h1
      have HB8 := Aside0.mk h2
      clear h1 h2 h3 h4
      go_wp2_with (at_builtin; refine Kd.R_append (Kd.int .u32) (w0 := w8) w7.heap.size rfl (.tmp 40) (.tmp 42) 22 43 (.int .u32 0) 4 rfl hu22 info_W rfl (by decide) (by omega) _ l m [.int .u32 m] (fun _ => True) (fun _ => False) rfl rfl ?bP (fun _ h => h.elim) ?bF ?bO ?bB ?bS ?bL ?_)
      case bP => exact rfl
      case bF => exact fun _ _ => trivial
      case bO => exact HR8.out
      case bB => exact Below.refl _ _
      case bS => exact HB8.out.size
      case bL => have := HLM.out; omega
      intro v2 w9 h1 h2 h3 h4
      obtain ⟨A9, c9, rfl⟩ := Kd.R_slice h1
      have hrr := Kd.R_reads' h1
      have hb9 := HB8.out.trans h2
      have HP9 := Aside0.mk (HP7.out.to hb9)
      have hpm := parse_job A9 c9 (l ++ [m]) w9 (Words.snoc HW.out HMW.out) (by rw [List.length_append]; have := HLM.out; simp; omega) hrr.2.1 hrr.2.2
      rw [HMORE.out] at hpm
      have HPM := Aside0.mk hpm
      clear h1 h2 h3 h4 hrr hb9 hpm HR8 HB8 HP7 HR7
      obtain ⟨q, hq⟩ : ∃ q, (l ++ [m]).length = q := ⟨_, rfl⟩
      rw [hq] at HPM ⊢
      clear hq
      go_wp2_with fail
      refine HPM.out.mono ?_
      rintro e w10 ⟨csd, rfl, h1, h2⟩
      generalize jobJ (l ++ [m]) = jc at *
      obtain ⟨D0, cD0, D1, cD1, D2, cD2, D3, cD3, D4, cD4, D5, cD5, rfl, hj⟩ := JobOwn.job h1
      have HPz := Aside0.mk ((HP9.out.to h2).alloc (.cells #[.slice D0 jc.cfg.ps.length cD0, .slice D1 jc.cfg.xs.length cD1, .int .i64 jc.cfg.l0, .slice D2 jc.cfg.ws0.length cD2, .int .i64 jc.cfg.l1, .slice D3 jc.cfg.ws1.length cD3, .slice D4 jc.streams.length cD4, .slice D5 jc.acts.length cD5] 48))
      clear h1 h2 hj
      go_wp2
      go_ret
      exact ⟨rfl, HPz.out.bel⟩
theorem ScriptCuts_walk (W : World) (csa : Array Value) (x : JT) (hK : kJob.K W x (Value.agg csa).cells.toList) (hV : VJ x) (n : Int) (hn : (Lit.int .u16 n).wf = true) (m : Int) (hm : (Lit.int .u32 m).wf = true) :
    Calls Try.prog 10 #[.agg csa, .int .u16 n, .int .u32 m] W fun e w' => e = .returned (.bool true) ∧ Below W.heap.size W w' := by
  obtain ⟨A0, c0, A1, c1, A2, c2, A3, c3, A4, c4, A5, c5, rfl, h⟩ := isJob_of hK
  obtain ⟨l1, l2, l3, _⟩ := lens_of hV
  exact ScriptCuts_go h (good_of hV) l1 l2 l3 n m (bounds_u16 hn) (bounds_u32 hm)
end Go.Proofs.Ytbpmmabdjabfcaa.Script
