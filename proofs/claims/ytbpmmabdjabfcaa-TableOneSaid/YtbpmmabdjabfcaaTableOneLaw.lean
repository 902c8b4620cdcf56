import Derived.Test.YtbpmmabdjabfcaaTableArg
import Derived.Test.YtbpmmabdjabfcaaTableRefSame
import Derived.Test.YtbpmmabdjabfcaaTableWakes
import Derived.Test.YtbpmmabdjabfcaaTablePrint
import Derived.Test.YtbpmmabdjabfcaaTablePure
import Derived.Test.YtbpmmabdjabfcaaPTx30
/- Package portholelaw06: the law TableOne: what is parsed has just these words. Written by wip/tableonelaw.py. -/
namespace Go.Proofs.Ytbpmmabdjabfcaa.Table
open Go.RowKit Go.Proofs.YtbpmmabdjabfcaaW.PrintWords Go.Proofs.YtbpmmabdjabfcaaW.PrintLast Go.Proofs.YtbpmmabdjabfcaaW.PrintMore Go.Proofs.Ytbpmmabdjabfcaa.Box Go.Proofs.Ytbpmmabdjabfcaa.PT Go.Proofs.Ytbpmmabdjabfcaa.Opn
set_option linter.unusedSimpArgs false
set_option linter.unusedVariables false
theorem same_refl (k : Nat) (l : List Int) (h : l.length ≤ 1152921504606846976) (hk : l.length < k) : portholeref02_Same.f k l l = some true := by
  unfold portholeref02_Same.f
  rw [if_pos rfl]
  have key : ∀ (m k j : Nat), l.length - j = m → m < k → portholeref02_Same.l0 k l l (j : Int) = some true := by
    intro m
    induction m with
    | zero =>
      intro k j hm hk
      obtain ⟨k, rfl⟩ : ∃ q, k = q + 1 := ⟨k - 1, by omega⟩
      simp only [portholeref02_Same.l0]
      rw [if_neg (by omega)]
    | succ m ih =>
      intro k j hm hk
      obtain ⟨k, rfl⟩ : ∃ q, k = q + 1 := ⟨k - 1, by omega⟩
      simp only [portholeref02_Same.l0]
      rw [if_pos (by omega), if_pos (by omega), if_pos (by omega), show wrap64 ((j : Int) + 1) = ((j + 1 : Nat) : Int) from by unfold wrap64; omega]
      simp only [if_true]
      exact ih k (j + 1) (by omega) (by omega)
  exact key l.length k 0 (by omega) hk
set_option maxRecDepth 20000 in
set_option maxHeartbeats 4000000 in
theorem TableOne_walk (W : World) (A : Option Addr) (n c : Nat) (ws : List Int) (hK : (Kd.slice 43 (Kd.int .u32)).K W ws (Value.slice A n c).cells.toList) (_hV : ws.length ≤ maxLen ∧ ∀ x ∈ ws, (Lit.int .u32 x).wf = true) :
    Calls Try.prog 6 #[.slice A n c] W fun e w' => e = .returned (.bool true) ∧ Below W.heap.size W w' := by
  obtain ⟨A', c', he, hc, hr⟩ := hK
  simp only [Value.cells, List.cons.injEq, Value.slice.injEq, and_true] at he
  obtain ⟨rfl, rfl, rfl⟩ := he
  have hw := words_of _hV.2
  clear _hV
  have HWK := Aside0.mk (fun (W : World) => wakes_calls W)
  have HPA := Aside0.mk (fun (X : World) (hX : Below W.heap.size W X) => parse_calls A c ws X hw hc (Kd.C_below hr hX))
  by_cases hbig : 1000 < ws.length
  · have hd : decide ((1000 : Int) < (ws.length : Int)) = true := decide_eq_true (by omega)
    clear hw hc hr
    generalize ws.length = len at *
    go_enter Try.func6, Try.ntmps6
    go_wp2_with fail
    refine (HWK.out _).mono ?_
    rintro e w2 ⟨rfl, hbw⟩
    have HB := Aside0.mk hbw
    clear hbw
    go_wp2
    go_ret
    exact ⟨rfl, HB.out⟩
  · have hd : decide ((1000 : Int) < (ws.length : Int)) = false := decide_eq_false (by omega)
    have HSH := Aside0.mk (parseC_short (ws := ws))
    have hsr := same_refl 1001 ws (by omega) (by omega)
    have HSA := Aside0.mk (fun (X : World) (hX : Below W.heap.size W X) (B : Option Addr) (k : Nat) (hk : ws.length ≤ k) (hB : Kd.C (Kd.int .u32) X B ws.length ws) => portholeref02_Same.calls 1001 B k ws A c ws true X hB hk (Kd.C_below hr hX) hc hsr)
    have hpp : parseE ws = 0 → printL (parseR ws) = ws ∧ Boots (parseR ws) := fun h => by
      rw [parseR, if_pos h]
      exact ⟨printL_parse ws hw h, (nums_parse ws hw h).2.2⟩
    have hpz : parseE ws ≠ 0 → parseR ws = zcfg := fun h => by rw [parseR, if_neg h]
    have HPP := Aside0.mk hpp
    have HPZ := Aside0.mk hpz
    clear hw hc hr hsr hpp hpz
    obtain ⟨len, hlen⟩ : ∃ l, ws.length = l := ⟨_, rfl⟩
    rw [hlen] at HPA HSA hd ⊢
    have HLN := Aside0.mk hlen
    clear hlen hbig
    generalize parseE ws = E at *
    generalize parseR ws = C at *
    go_enter Try.func6, Try.ntmps6
    go_wp2_with fail
    refine (HWK.out _).mono ?_
    rintro e w2 ⟨rfl, hbw⟩
    have HB := Aside0.mk hbw
    clear hbw
    go_wp2_with fail
    refine (HPA.out _ HB.out).mono ?_
    rintro e w3 ⟨csa, rfl, h1, h2⟩
    have h3 := h1
    obtain ⟨A0, n0, c0, A1, n1, c1, l0, A2, n2, c2, l1, A3, n3, c3, rfl⟩ := isCfg_any h3
    have HB3 := Aside0.mk (HB.out.trans (h2.mono HB.out.size))
    have hb4 := below_alloc (Below.refl _ w3) (.cells #[.slice A0 n0 c0, .slice A1 n1 c1, .int .i64 l0, .slice A2 n2 c2, .int .i64 l1, .slice A3 n3 c3] 31)
    have HA4 := Aside0.mk (isCfg_below h1 hb4)
    have HB4 := Aside0.mk (HB3.out.trans (hb4.mono HB3.out.size))
    clear h1 h2 h3 hb4
    by_cases hE : E = 0
    · have hE' : (E != 0) = false := by simp [hE]
      obtain ⟨hp1, hp2⟩ := HPP.out hE
      have HPR := Aside0.mk (print_calls HA4.out hp2)
      have HPL := Aside0.mk hp1
      clear hE hp1 hp2
      go_wp2_with fail
      refine HPR.out.mono ?_
      rintro e w5 ⟨B, k, rfl, hk, hB, hb5⟩
      rw [HPL.out, HLN.out] at hk hB ⊢
      have HB5 := Aside0.mk (HB4.out.trans (hb5.mono HB4.out.size))
      have HS5 := Aside0.mk (HSA.out w5 HB5.out B k hk hB)
      clear hk hB hb5
      go_wp2_with fail
      refine HS5.out.mono ?_
      rintro e w6 ⟨rfl, hd6⟩
      have HB6 := Aside0.mk (below_drawn0 HB5.out hd6)
      clear hd6
      go_wp2
      go_ret
      exact ⟨rfl, HB6.out⟩
    · have hE' : (E != 0) = true := by simp [hE]
      have hz := HPZ.out hE
      have hq := refsame_calls HA4.out (isCfg_zero _) HSH.out
      rw [decide_eq_true hz] at hq
      have HQ := Aside0.mk hq
      clear hE hz hq
      go_wp2_with fail
      refine HQ.out.mono ?_
      rintro e w5 ⟨rfl, hb5⟩
      have HB5 := Aside0.mk (HB4.out.trans (hb5.mono HB4.out.size))
      clear hb5
      go_wp2
      go_ret
      exact ⟨rfl, HB5.out⟩
end Go.Proofs.Ytbpmmabdjabfcaa.Table
