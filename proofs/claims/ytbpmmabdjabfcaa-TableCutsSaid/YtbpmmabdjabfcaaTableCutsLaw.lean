import Derived.Test.YtbpmmabdjabfcaaTableArg
import Derived.Test.YtbpmmabdjabfcaaTableWakes
import Derived.Test.YtbpmmabdjabfcaaTablePrint
import Derived.Test.YtbpmmabdjabfcaaTablePure
/- Package portholelaw06: the law TableCuts: of a configuration's words none of the beginnings is one's, nor is what has a word more. Written by wip/tablecutslaw.py. -/
namespace Go.Proofs.Ytbpmmabdjabfcaa.Table
open Go.RowKit Go.Proofs.YtbpmmabdjabfcaaW.PrintWords Go.Proofs.YtbpmmabdjabfcaaW.PrintLast Go.Proofs.YtbpmmabdjabfcaaW.PrintMore Go.Proofs.Ytbpmmabdjabfcaa.Box Go.Proofs.Ytbpmmabdjabfcaa.PT Go.Proofs.Ytbpmmabdjabfcaa.Opn
set_option linter.unusedSimpArgs false
set_option linter.unusedVariables false
theorem Words.take {ws : List Int} (h : Words ws) (k : Nat) : Words (ws.take k) := fun x hx => h x (List.mem_of_mem_take hx)
theorem Words.snoc {ws : List Int} (h : Words ws) {m : Int} (hm : 0 ≤ m ∧ m ≤ 4294967295) : Words (ws ++ [m]) := fun x hx => by
  rcases List.mem_append.1 hx with h1 | h1
  · exact h x h1
  · obtain rfl : x = m := by simpa using h1
    exact hm
set_option maxRecDepth 20000 in
set_option maxHeartbeats 4000000 in
theorem TableCuts_go {w : World} {c : Cfg} {cs : Array Value} (h : IsCfg w c cs) (hbt : Boots c) (n m : Int) (hn : 0 ≤ n ∧ n ≤ 65535) (hmw : 0 ≤ m ∧ m ≤ 4294967295) :
    Calls Try.prog 7 #[.agg cs, .int .u16 n, .int .u32 m] w fun e w' => e = .returned (.bool true) ∧ Below w.heap.size w w' := by
  have HGR := Aside0.mk (fun (X : World) (hX : Below w.heap.size w X) => great_calls (isCfg_below h hX))
  have HPR := Aside0.mk (fun (X : World) (hX : Below w.heap.size w X) => print_calls (isCfg_below h hX) hbt)
  have HTD := Aside0.mk (fun (X : World) (hX : Below w.heap.size w X) => told_calls (isCfg_below h hX))
  have HWK := Aside0.mk (fun (W : World) => wakes_calls W)
  have hpt : toldB c = true → printL c = numsL c ∧ Words (numsL c) ∧ fewB c = true := fun ht => printL_told c hbt ht
  have HPT := Aside0.mk hpt
  have HLN := Aside0.mk (printL_len c)
  have HMW := Aside0.mk hmw
  obtain ⟨A0, n0, c0, A1, n1, c1, l0, A2, n2, c2, l1, A3, n3, c3, rfl⟩ := isCfg_any h
  have HP0 := Aside0.mk (SB.start w (.slice A0 n0 c0) (.slice A1 n1 c1) (.int .i64 l0) (.slice A2 n2 c2) (.int .i64 l1) (.slice A3 n3 c3))
  clear h hpt hmw
  generalize greatB c = gb at *
  generalize toldB c = tb at *
  go_enter Try.func7, Try.ntmps7
  go_wp2_with fail
  refine (HWK.out _).mono ?_
  rintro e w2 ⟨rfl, hbw⟩
  have HP2 := Aside0.mk (HP0.out.to hbw)
  clear hbw HP0 HWK
  have ha0 := HP2.out.a0
  have ha1 := HP2.out.a1
  have ha2 := HP2.out.a2
  have ha3 := HP2.out.a3
  have ha4 := HP2.out.a4
  have ha5 := HP2.out.a5
  go_wp2_with fail
  refine (HGR.out _ HP2.out.bel).mono ?_
  rintro e w3 ⟨rfl, hbw⟩
  have HP3 := Aside0.mk (HP2.out.to hbw)
  clear hbw HP2 HGR ha0 ha1 ha2 ha3 ha4 ha5
  have ha0 := HP3.out.a0
  have ha1 := HP3.out.a1
  have ha2 := HP3.out.a2
  have ha3 := HP3.out.a3
  have ha4 := HP3.out.a4
  have ha5 := HP3.out.a5
  cases gb with
  | true =>
    go_wp2
    go_ret
    exact ⟨rfl, HP3.out.bel⟩
  | false =>
    go_wp2_with fail
    refine (HTD.out _ HP3.out.bel).mono ?_
    rintro e w4 ⟨rfl, hbw⟩
    have HP4 := Aside0.mk (HP3.out.to hbw)
    clear hbw HP3 HTD ha0 ha1 ha2 ha3 ha4 ha5
    have ha0 := HP4.out.a0
    have ha1 := HP4.out.a1
    have ha2 := HP4.out.a2
    have ha3 := HP4.out.a3
    have ha4 := HP4.out.a4
    have ha5 := HP4.out.a5
    cases tb with
    | false =>
      go_wp2
      go_ret
      exact ⟨rfl, HP4.out.bel⟩
    | true =>
      obtain ⟨hp1, hp2, hp3⟩ := HPT.out rfl
      have HW := Aside0.mk hp2
      have HF := Aside0.mk hp3
      have HL6 : Aside0 (6 ≤ (numsL c).length) := ⟨by rw [numsL_len]; unfold cntW; omega⟩
      have HLM : Aside0 ((numsL c).length ≤ 1000) := ⟨by rw [← hp1]; exact HLN.out⟩
      have hpp := HPR.out _ HP4.out.bel
      rw [hp1] at hpp
      have HPP := Aside0.mk hpp
      have HCUT := Aside0.mk (fun k hk => parseE_cut c k hk hp3)
      have HMORE := Aside0.mk (parseE_more c m hp3)
      clear hp1 hp2 hp3 hpp HPR HPT HLN
      generalize numsL c = l at *
      go_wp2_with fail
      refine HPP.out.mono ?_
      rintro e w5 ⟨Ap, kp, rfl, hkp, hrp, hbw⟩
      have HP5 := Aside0.mk (HP4.out.to hbw)
      clear HP4 HPP hbw ha0 ha1 ha2 ha3 ha4 ha5
      have hl6 := HL6.out
      have hlm := HLM.out
      obtain ⟨ad, rfl, _⟩ := hrp.2.2 (by omega)
      have HRP := Aside0.mk hrp
      obtain ⟨k, hk⟩ : ∃ k, n.toNat % l.length = k := ⟨_, rfl⟩
      have hkl : k < l.length := by rw [← hk]; exact Nat.mod_lt _ (by omega)
      have hkc : k ≤ kp := by omega
      have hPA := fun (X : World) (hX : Below w5.heap.size w5 X) => parse_calls (some ad) kp (l.take k) X (HW.out.take k) (by rw [List.length_take]; omega) (Kd.C_below (Kd.C_take hrp (by omega)) hX)
      rw [HCUT.out k hkl, show (l.take k).length = k by rw [List.length_take]; omega] at hPA
      have HPA := Aside0.mk hPA
      have hrem : n.tmod (l.length : Int) = (k : Int) := by
        rw [Int.tmod_eq_emod_of_nonneg hn.1, ← hk, Int.natCast_emod, Int.toNat_of_nonneg hn.1]
      obtain ⟨len, hlen⟩ : ∃ x, l.length = x := ⟨_, rfl⟩
      have HLE := Aside0.mk hlen
      rw [hlen] at hrem hl6 hlm hkl hkp ⊢
      have hd : decide (len < 6) = false := decide_eq_false (by omega)
      have hd' : decide ((len : Int) < 6) = false := decide_eq_false (by omega)
      have hz : ((len : Int) == 0) = false := by simp; omega
      have hcv : IntKind.i64.wrap n = n := by rw [i64_w]; unfold wrap64; omega
      have hk0 : (0 : Int) ≤ (k : Int) := by omega
      have hk1 : (k : Int) ≤ (kp : Int) := by omega
      clear hrp hPA hk hlen
      go_wp2_with fail
      refine (HPA.out _ (Below.refl _ _)).mono ?_
      rintro e w6 ⟨csb, rfl, h1, h2⟩
      obtain ⟨B0, m0, d0, B1, m1, d1, k0, B2, m2, d2, k1, B3, m3, d3, rfl⟩ := isCfg_any h1
      have hb7 := h2.trans ((below_alloc (Below.refl _ w6) (.cells #[.slice B0 m0 d0, .slice B1 m1 d1, .int .i64 k0, .slice B2 m2 d2, .int .i64 k1, .slice B3 m3 d3] 31)).mono h2.size)
      have HP7 := Aside0.mk (HP5.out.to hb7)
      have HR7 : Aside0 (Kd.C (Kd.int .u32) (w6.alloc (.cells #[.slice B0 m0 d0, .slice B1 m1 d1, .int .i64 k0, .slice B2 m2 d2, .int .i64 k1, .slice B3 m3 d3] 31)) (some ad) len l) := ⟨by have h := Kd.C_below HRP.out hb7; rw [HLE.out] at h; exact h⟩
      have hu22 := Try.underlying22
      clear h1 h2 hb7 HPA HP5 HRP hrem hcv hk0 hk1 hd hd' hz
      go_upto_region 9 with fail
      generalize w6.alloc (.cells #[.slice B0 m0 d0, .slice B1 m1 d1, .int .i64 k0, .slice B2 m2 d2, .int .i64 k1, .slice B3 m3 d3] 31) = w7 at *
      go_wp2_with (at_builtin; refine Kd.R_append_rows (Kd.int .u32) (w0 := w7) w7.heap.size rfl (.tmp 38) (.tmp 39) 22 43 (.int .u32 0) 4 rfl hu22 info_u32 rfl (by decide) (by omega) (.slice (some ⟨w7.heap.size, 0, none⟩) 0 0) ([] : List Int) l _ _ _ (fun _ => True) (fun _ => False) rfl rfl ?aO ?aR (fun _ _ h => h) (fun _ h => h.elim) ?aF ?aB ?aS ?aL ?_)
      case aO => exact R_void _ _ _
      case aR => exact Kd.C_alloc HR7.out _
      case aF => exact fun _ _ => trivial
      case aB => exact below_alloc (Below.refl _ _) _
      case aS => simp
      case aL => simp; omega
      intro v1 w8 h1 h2 h3 h4
      obtain ⟨A8, n8, c8, rfl⟩ : ∃ A n c, v1 = .slice A n c := by
        obtain ⟨A, c, h⟩ := Kd.R_slice h1
        exact ⟨A, _, c, h⟩
      have HR8 := Aside0.mk h1
      have HB8 := Aside0.mk h2
      clear h1 h2 h3 h4
      go_wp2_with (at_builtin; refine Kd.R_append (Kd.int .u32) (w0 := w8) w7.heap.size rfl (.tmp 40) (.tmp 42) 22 43 (.int .u32 0) 4 rfl hu22 info_w32 rfl (by decide) (by omega) _ l m [.int .u32 m] (fun _ => True) (fun _ => False) rfl rfl ?bP (fun _ h => h.elim) ?bF ?bO ?bB ?bS ?bL ?_)
      case bP => exact rfl
      case bF => exact fun _ _ => trivial
      case bO => exact HR8.out
      case bB => exact Below.refl _ _
      case bS => exact HB8.out.size
      case bL => have := HLM.out; omega
      intro v2 w9 h1 h2 h3 h4
      obtain ⟨A9, c9, rfl⟩ := Kd.R_slice h1
      have hrr := Kd.R_reads' h1
      have hb9 := HB8.out.trans h2
      have HP9 := Aside0.mk (HP7.out.to hb9)
      have hpm := parse_calls A9 c9 (l ++ [m]) w9 (HW.out.snoc HMW.out) hrr.2.1 hrr.2.2
      rw [HMORE.out] at hpm
      have HPM := Aside0.mk hpm
      clear h1 h2 h3 h4 hrr hb9 hpm HR8 HB8 HP7 HR7
      obtain ⟨q, hq⟩ : ∃ q, (l ++ [m]).length = q := ⟨_, rfl⟩
      rw [hq] at HPM ⊢
      clear hq
      go_wp2_with fail
      refine HPM.out.mono ?_
      rintro e w10 ⟨csd, rfl, h1, h2⟩
      obtain ⟨D0, o0, e0, D1, o1, e1, j0, D2, o2, e2, j1, D3, o3, e3, rfl⟩ := isCfg_any h1
      have HPz := Aside0.mk ((HP9.out.to h2).alloc (.cells #[.slice D0 o0 e0, .slice D1 o1 e1, .int .i64 j0, .slice D2 o2 e2, .int .i64 j1, .slice D3 o3 e3] 31))
      clear h1 h2
      go_wp2
      go_ret
      exact ⟨rfl, HPz.out.bel⟩
theorem TableCuts_walk (W : World) (csa : Array Value) (x : List S64 × List S68 × (Int × List S72) × (Int × List S72)) (hK : kCfg.K W x (Value.agg csa).cells.toList) (hV : VC x) (n : Int) (hn : (Lit.int .u16 n).wf = true) (m : Int) (hm : (Lit.int .u32 m).wf = true) :
    Calls Try.prog 7 #[.agg csa, .int .u16 n, .int .u32 m] W fun e w' => e = .returned (.bool true) ∧ Below W.heap.size W w' :=
  TableCuts_go (isCfg_of hK) (fun y hy => bounds_u32 ((hV.2.1.2 y hy).2.2.2.2.2.2)) n m (bounds_u16 hn) (bounds_u32 hm)
end Go.Proofs.Ytbpmmabdjabfcaa.Table
