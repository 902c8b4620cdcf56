import Derived.Test.YtbpmmabdjabfcaaTableSameLaw
import Derived.Test.YtbpmmabdjabfcaaTableRefParse
import Derived.OpenShut
/- Package portholelaw06: the law TableParses: any words are the configuration that the document says, or refused. Written by wip/tableparseslaw.py. -/
namespace Go.Proofs.Ytbpmmabdjabfcaa.Table
open Go.RowKit Go.Proofs.YtbpmmabdjabfcaaW.PrintWords Go.Proofs.YtbpmmabdjabfcaaW.PrintLast Go.Proofs.YtbpmmabdjabfcaaW.PrintMore Go.Proofs.Ytbpmmabdjabfcaa.Box Go.Proofs.Ytbpmmabdjabfcaa.PT Go.Proofs.Ytbpmmabdjabfcaa.Opn
set_option linter.unusedSimpArgs false
set_option linter.unusedVariables false
theorem opn_words : Opn Try.prog 22 (Kd.slice 43 (Kd.int .u32)) (fun xs => xs.length ≤ maxLen ∧ ∀ x ∈ xs, (Lit.int .u32 x).wf = true) := opn_slice Try.underlying22 (by kernel_rfl) (opn_int Try.underlying43)
theorem words_of {ws : List Int} (h : ∀ x ∈ ws, (Lit.int .u32 x).wf = true) : Words ws := fun x hx => by
  exact bounds_u32 (h x hx)
theorem parseC_short {ws : List Int} : Short (parseR ws) := by
  unfold parseR
  by_cases h : parseE ws = 0
  · rw [if_pos h]
    unfold parseE at h
    by_cases h6 : ws.length < 6
    · rw [if_pos h6] at h; exact absurd h (by decide)
    · rw [if_neg h6] at h
      by_cases hb : bigW ws
      · rw [if_pos hb] at h; exact absurd h (by decide)
      · unfold bigW at hb
        unfold parseC Short
        simp only [parts_length, chans_length, windows_length]
        omega
  · rw [if_neg h]
    exact ⟨by decide, by decide, by decide, by decide⟩
set_option maxRecDepth 20000 in
set_option maxHeartbeats 4000000 in
theorem TableParses_walk (W : World) (A : Option Addr) (n c : Nat) (ws : List Int) (hK : (Kd.slice 43 (Kd.int .u32)).K W ws (Value.slice A n c).cells.toList) (_hV : ws.length ≤ maxLen ∧ ∀ x ∈ ws, (Lit.int .u32 x).wf = true) :
    Calls Try.prog 3 #[.slice A n c] W fun e w' => e = .returned (.bool true) ∧ Below W.heap.size W w' := by
  obtain ⟨A', c', he, hc, hr⟩ := hK
  simp only [Value.cells, List.cons.injEq, Value.slice.injEq, and_true] at he
  obtain ⟨rfl, rfl, rfl⟩ := he
  have hw := words_of _hV.2
  clear _hV
  have HWK := Aside0.mk (fun (W : World) => wakes_calls W)
  have HPA := Aside0.mk (fun (X : World) (hX : Below W.heap.size W X) => parse_calls A c ws X hw hc (Kd.C_below hr hX))
  by_cases hbig : 1000 < ws.length
  · have hd : decide ((1000 : Int) < (ws.length : Int)) = true := decide_eq_true (by omega)
    clear hw hc hr
    generalize ws.length = len at *
    go_enter Try.func3, Try.ntmps3
    go_wp2_with fail
    refine (HWK.out _).mono ?_
    rintro e w2 ⟨rfl, hbw⟩
    have HB := Aside0.mk hbw
    clear hbw
    go_wp2
    go_ret
    exact ⟨rfl, HB.out⟩
  · have hd : decide ((1000 : Int) < (ws.length : Int)) = false := decide_eq_false (by omega)
    have HRP := Aside0.mk (fun (X : World) (hX : Below W.heap.size W X) => refparse_calls A c ws X hw hc (by omega) (Kd.C_below hr hX))
    have HSH := Aside0.mk (parseC_short (ws := ws))
    clear hw hc hr
    obtain ⟨len, hlen⟩ : ∃ l, ws.length = l := ⟨_, rfl⟩
    rw [hlen] at HPA HRP hd ⊢
    clear hlen hbig
    generalize parseE ws = E at *
    generalize parseR ws = C at *
    go_enter Try.func3, Try.ntmps3
    go_wp2_with fail
    refine (HWK.out _).mono ?_
    rintro e w2 ⟨rfl, hbw⟩
    have HB := Aside0.mk hbw
    clear hbw
    go_wp2_with fail
    refine (HPA.out _ HB.out).mono ?_
    rintro e w3 ⟨csa, rfl, h1, h2⟩
    have h3 := h1
    obtain ⟨A0, n0, c0, A1, n1, c1, l0, A2, n2, c2, l1, A3, n3, c3, rfl⟩ := isCfg_any h3
    have HA3 := Aside0.mk h1
    have HB3 := Aside0.mk (HB.out.trans (h2.mono HB.out.size))
    clear h1 h2 h3
    have hg := blk_new w3 (.cells #[.slice A0 n0 c0, .slice A1 n1 c1, .int .i64 l0, .slice A2 n2 c2, .int .i64 l1, .slice A3 n3 c3] 31)
    have HG4 := Aside0.mk hg
    have hb4 := below_alloc (Below.refl _ w3) (.cells #[.slice A0 n0 c0, .slice A1 n1 c1, .int .i64 l0, .slice A2 n2 c2, .int .i64 l1, .slice A3 n3 c3] 31)
    have HA4 := Aside0.mk (isCfg_below HA3.out hb4)
    have HB4 := Aside0.mk (HB3.out.trans (hb4.mono HB3.out.size))
    clear hg hb4
    go_wp2_with fail
    refine (HRP.out _ HB4.out).mono ?_
    rintro e w5 ⟨csb, rfl, h1, h2⟩
    have h3 := h1
    obtain ⟨B0, m0, d0, B1, m1, d1, k0, B2, m2, d2, k1, B3, m3, d3, rfl⟩ := isCfg_any h3
    have hb6 := below_alloc (Below.refl _ w5) (.cells #[.slice B0 m0 d0, .slice B1 m1 d1, .int .i64 k0, .slice B2 m2 d2, .int .i64 k1, .slice B3 m3 d3] 31)
    have HG6 := Aside0.mk (blk_below (blk_below HG4.out h2) hb6)
    have HA6 := Aside0.mk (isCfg_below (isCfg_below HA4.out h2) hb6)
    have HC6 := Aside0.mk (isCfg_below h1 hb6)
    have HB5 := Aside0.mk (HB4.out.trans (h2.mono HB4.out.size))
    have HB6 := Aside0.mk (HB5.out.trans (hb6.mono HB5.out.size))
    have HD6 := Aside0.mk (blk_new w5 (.cells #[.slice B0 m0 d0, .slice B1 m1 d1, .int .i64 k0, .slice B2 m2 d2, .int .i64 k1, .slice B3 m3 d3] 31))
    have hlt := blk_lt HD6.out
    clear h1 h2 h3 hb6
    obtain ⟨w6, hw6⟩ : ∃ X, w5.alloc (.cells #[.slice B0 m0 d0, .slice B1 m1 d1, .int .i64 k0, .slice B2 m2 d2, .int .i64 k1, .slice B3 m3 d3] 31) = X := ⟨_, rfl⟩
    rw [hw6] at HG6 HA6 HC6 HB6 HD6 hlt
    have ha0 : w6.cell? ⟨w3.heap.size, 0, none⟩ = some (.slice A0 n0 c0) := (blk_cell HG6.out 0).trans rfl
    have ha1 : w6.cell? ⟨w3.heap.size, 1, none⟩ = some (.slice A1 n1 c1) := (blk_cell HG6.out 1).trans rfl
    have ha2 : w6.cell? ⟨w3.heap.size, 2, none⟩ = some (.int .i64 l0) := (blk_cell HG6.out 2).trans rfl
    have ha3 : w6.cell? ⟨w3.heap.size, 3, none⟩ = some (.slice A2 n2 c2) := (blk_cell HG6.out 3).trans rfl
    have ha4 : w6.cell? ⟨w3.heap.size, 4, none⟩ = some (.int .i64 l1) := (blk_cell HG6.out 4).trans rfl
    have ha5 : w6.cell? ⟨w3.heap.size, 5, none⟩ = some (.slice A3 n3 c3) := (blk_cell HG6.out 5).trans rfl
    have hb0 : w6.cell? ⟨w5.heap.size, 0, none⟩ = some (.slice B0 m0 d0) := (blk_cell HD6.out 0).trans rfl
    have hb1 : w6.cell? ⟨w5.heap.size, 1, none⟩ = some (.slice B1 m1 d1) := (blk_cell HD6.out 1).trans rfl
    have hb2 : w6.cell? ⟨w5.heap.size, 2, none⟩ = some (.int .i64 k0) := (blk_cell HD6.out 2).trans rfl
    have hb3 : w6.cell? ⟨w5.heap.size, 3, none⟩ = some (.slice B2 m2 d2) := (blk_cell HD6.out 3).trans rfl
    have hb4 : w6.cell? ⟨w5.heap.size, 4, none⟩ = some (.int .i64 k1) := (blk_cell HD6.out 4).trans rfl
    have hb5 : w6.cell? ⟨w5.heap.size, 5, none⟩ = some (.slice B3 m3 d3) := (blk_cell HD6.out 5).trans rfl
    have hE : (E == E) = true := by simp
    go_upto_region 7 with fail
    clear hw6
    have HS6 := Aside0.mk (refsame_calls HA6.out HC6.out HSH.out)
    go_wp2_with fail
    refine HS6.out.mono ?_
    rintro e w7 ⟨rfl, h1⟩
    have HG7 := Aside0.mk (blk_below HG6.out h1)
    have HD7 := Aside0.mk (blk_below HD6.out h1)
    have HB7 := Aside0.mk (HB6.out.trans (h1.mono HB6.out.size))
    have HS7 := Aside0.mk (same_calls (isCfg_below HA6.out h1) (isCfg_below HC6.out h1) HSH.out)
    clear h1 HS6
    have hc0 : w7.cell? ⟨w3.heap.size, 0, none⟩ = some (.slice A0 n0 c0) := (blk_cell HG7.out 0).trans rfl
    have hc1 : w7.cell? ⟨w3.heap.size, 1, none⟩ = some (.slice A1 n1 c1) := (blk_cell HG7.out 1).trans rfl
    have hc2 : w7.cell? ⟨w3.heap.size, 2, none⟩ = some (.int .i64 l0) := (blk_cell HG7.out 2).trans rfl
    have hc3 : w7.cell? ⟨w3.heap.size, 3, none⟩ = some (.slice A2 n2 c2) := (blk_cell HG7.out 3).trans rfl
    have hc4 : w7.cell? ⟨w3.heap.size, 4, none⟩ = some (.int .i64 l1) := (blk_cell HG7.out 4).trans rfl
    have hc5 : w7.cell? ⟨w3.heap.size, 5, none⟩ = some (.slice A3 n3 c3) := (blk_cell HG7.out 5).trans rfl
    have hd0 : w7.cell? ⟨w5.heap.size, 0, none⟩ = some (.slice B0 m0 d0) := (blk_cell HD7.out 0).trans rfl
    have hd1 : w7.cell? ⟨w5.heap.size, 1, none⟩ = some (.slice B1 m1 d1) := (blk_cell HD7.out 1).trans rfl
    have hd2 : w7.cell? ⟨w5.heap.size, 2, none⟩ = some (.int .i64 k0) := (blk_cell HD7.out 2).trans rfl
    have hd3 : w7.cell? ⟨w5.heap.size, 3, none⟩ = some (.slice B2 m2 d2) := (blk_cell HD7.out 3).trans rfl
    have hd4 : w7.cell? ⟨w5.heap.size, 4, none⟩ = some (.int .i64 k1) := (blk_cell HD7.out 4).trans rfl
    have hd5 : w7.cell? ⟨w5.heap.size, 5, none⟩ = some (.slice B3 m3 d3) := (blk_cell HD7.out 5).trans rfl
    have hq : decide (C = C) = true := decide_eq_true rfl
    go_wp2_with fail
    refine HS7.out.mono ?_
    rintro e w8 ⟨rfl, h1⟩
    have HB8 := Aside0.mk (HB7.out.trans (h1.mono HB7.out.size))
    clear h1 HS7
    go_wp2
    go_ret
    exact ⟨by first | rfl | simp, HB8.out⟩
end Go.Proofs.Ytbpmmabdjabfcaa.Table
