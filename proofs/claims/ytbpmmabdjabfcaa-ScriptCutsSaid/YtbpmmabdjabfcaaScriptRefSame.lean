import Derived.Test.YtbpmmabdjabfcaaScriptEq
import Derived.Test.YtbpmmabdjabfcaaTableRefSame
/- Package portholeref25: Same tells whether two jobs are the same. Written by wip/scriptsame.py. -/
namespace Go.Proofs.Ytbpmmabdjabfcaa.Script
open Go.RowKit Go.Proofs.YtbpmmabdjabfcaaW.PrintWords Go.Proofs.YtbpmmabdjabfcaaW.PrintLast Go.Proofs.YtbpmmabdjabfcaaW.PrintMore Go.Proofs.Ytbpmmabdjabfcaa.Box Go.Proofs.Ytbpmmabdjabfcaa.PT Go.Proofs.Ytbpmmabdjabfcaa.Table
set_option linter.unusedSimpArgs false
set_option linter.unusedVariables false
/-- Two jobs in boxes. -/
structure SJ (w W : World) (x0 x1 x2 x3 x4 x5 x6 x7 y0 y1 y2 y3 y4 y5 y6 y7 : Value) : Prop where
  ba : W.heap[w.heap.size]? = some (.cells #[x0, x1, x2, x3, x4, x5, x6, x7] 48 (0, 0))
  bb : W.heap[w.heap.size + 1]? = some (.cells #[y0, y1, y2, y3, y4, y5, y6, y7] 48 (0, 0))
  bel : Below w.heap.size w W
section
variable {w W W' : World} {x0 x1 x2 x3 x4 x5 x6 x7 y0 y1 y2 y3 y4 y5 y6 y7 : Value}
theorem SJ.start (w : World) (x0 x1 x2 x3 x4 x5 x6 x7 y0 y1 y2 y3 y4 y5 y6 y7 : Value) : SJ w ((w.alloc (.cells #[x0, x1, x2, x3, x4, x5, x6, x7] 48)).alloc (.cells #[y0, y1, y2, y3, y4, y5, y6, y7] 48)) x0 x1 x2 x3 x4 x5 x6 x7 y0 y1 y2 y3 y4 y5 y6 y7 :=
  ⟨blk_alloc (blk_new w _) _, by
    have h := blk_new (w.alloc (.cells #[x0, x1, x2, x3, x4, x5, x6, x7] 48)) (.cells #[y0, y1, y2, y3, y4, y5, y6, y7] 48)
    rw [World.size_alloc] at h
    exact h, below_alloc (below_alloc (Below.refl _ w) _) _⟩
theorem SJ.to (h : SJ w W x0 x1 x2 x3 x4 x5 x6 x7 y0 y1 y2 y3 y4 y5 y6 y7) (hb : Below W.heap.size W W') : SJ w W' x0 x1 x2 x3 x4 x5 x6 x7 y0 y1 y2 y3 y4 y5 y6 y7 := ⟨blk_below h.ba hb, blk_below h.bb hb, h.bel.trans (hb.mono h.bel.size)⟩
theorem SJ.drew (h : SJ w W x0 x1 x2 x3 x4 x5 x6 x7 y0 y1 y2 y3 y4 y5 y6 y7) : SJ w W.drew x0 x1 x2 x3 x4 x5 x6 x7 y0 y1 y2 y3 y4 y5 y6 y7 := h.to (below_drew1 (Below.refl _ _))
theorem SJ.drewN (h : SJ w W x0 x1 x2 x3 x4 x5 x6 x7 y0 y1 y2 y3 y4 y5 y6 y7) (n : Nat) : SJ w (W.drewN n) x0 x1 x2 x3 x4 x5 x6 x7 y0 y1 y2 y3 y4 y5 y6 y7 := h.to (pw_below_drewN (Below.refl _ _) n)
theorem SJ.a0 (h : SJ w W x0 x1 x2 x3 x4 x5 x6 x7 y0 y1 y2 y3 y4 y5 y6 y7) : W.cell? ⟨w.heap.size, 0, none⟩ = some x0 := (blk_cell h.ba 0).trans rfl
theorem SJ.b0 (h : SJ w W x0 x1 x2 x3 x4 x5 x6 x7 y0 y1 y2 y3 y4 y5 y6 y7) : W.cell? ⟨w.heap.size + 1, 0, none⟩ = some y0 := (blk_cell h.bb 0).trans rfl
theorem SJ.a1 (h : SJ w W x0 x1 x2 x3 x4 x5 x6 x7 y0 y1 y2 y3 y4 y5 y6 y7) : W.cell? ⟨w.heap.size, 1, none⟩ = some x1 := (blk_cell h.ba 1).trans rfl
theorem SJ.b1 (h : SJ w W x0 x1 x2 x3 x4 x5 x6 x7 y0 y1 y2 y3 y4 y5 y6 y7) : W.cell? ⟨w.heap.size + 1, 1, none⟩ = some y1 := (blk_cell h.bb 1).trans rfl
theorem SJ.a2 (h : SJ w W x0 x1 x2 x3 x4 x5 x6 x7 y0 y1 y2 y3 y4 y5 y6 y7) : W.cell? ⟨w.heap.size, 2, none⟩ = some x2 := (blk_cell h.ba 2).trans rfl
theorem SJ.b2 (h : SJ w W x0 x1 x2 x3 x4 x5 x6 x7 y0 y1 y2 y3 y4 y5 y6 y7) : W.cell? ⟨w.heap.size + 1, 2, none⟩ = some y2 := (blk_cell h.bb 2).trans rfl
theorem SJ.a3 (h : SJ w W x0 x1 x2 x3 x4 x5 x6 x7 y0 y1 y2 y3 y4 y5 y6 y7) : W.cell? ⟨w.heap.size, 3, none⟩ = some x3 := (blk_cell h.ba 3).trans rfl
theorem SJ.b3 (h : SJ w W x0 x1 x2 x3 x4 x5 x6 x7 y0 y1 y2 y3 y4 y5 y6 y7) : W.cell? ⟨w.heap.size + 1, 3, none⟩ = some y3 := (blk_cell h.bb 3).trans rfl
theorem SJ.a4 (h : SJ w W x0 x1 x2 x3 x4 x5 x6 x7 y0 y1 y2 y3 y4 y5 y6 y7) : W.cell? ⟨w.heap.size, 4, none⟩ = some x4 := (blk_cell h.ba 4).trans rfl
theorem SJ.b4 (h : SJ w W x0 x1 x2 x3 x4 x5 x6 x7 y0 y1 y2 y3 y4 y5 y6 y7) : W.cell? ⟨w.heap.size + 1, 4, none⟩ = some y4 := (blk_cell h.bb 4).trans rfl
theorem SJ.a5 (h : SJ w W x0 x1 x2 x3 x4 x5 x6 x7 y0 y1 y2 y3 y4 y5 y6 y7) : W.cell? ⟨w.heap.size, 5, none⟩ = some x5 := (blk_cell h.ba 5).trans rfl
theorem SJ.b5 (h : SJ w W x0 x1 x2 x3 x4 x5 x6 x7 y0 y1 y2 y3 y4 y5 y6 y7) : W.cell? ⟨w.heap.size + 1, 5, none⟩ = some y5 := (blk_cell h.bb 5).trans rfl
theorem SJ.a6 (h : SJ w W x0 x1 x2 x3 x4 x5 x6 x7 y0 y1 y2 y3 y4 y5 y6 y7) : W.cell? ⟨w.heap.size, 6, none⟩ = some x6 := (blk_cell h.ba 6).trans rfl
theorem SJ.b6 (h : SJ w W x0 x1 x2 x3 x4 x5 x6 x7 y0 y1 y2 y3 y4 y5 y6 y7) : W.cell? ⟨w.heap.size + 1, 6, none⟩ = some y6 := (blk_cell h.bb 6).trans rfl
theorem SJ.a7 (h : SJ w W x0 x1 x2 x3 x4 x5 x6 x7 y0 y1 y2 y3 y4 y5 y6 y7) : W.cell? ⟨w.heap.size, 7, none⟩ = some x7 := (blk_cell h.ba 7).trans rfl
theorem SJ.b7 (h : SJ w W x0 x1 x2 x3 x4 x5 x6 x7 y0 y1 y2 y3 y4 y5 y6 y7) : W.cell? ⟨w.heap.size + 1, 7, none⟩ = some y7 := (blk_cell h.bb 7).trans rfl
end
set_option maxRecDepth 20000 in
set_option maxHeartbeats 8000000 in
theorem refsame_job {w : World} {a b : Job} {A0 : Option Addr} {cA0 : Nat} {A1 : Option Addr} {cA1 : Nat} {A2 : Option Addr} {cA2 : Nat} {A3 : Option Addr} {cA3 : Nat} {A4 : Option Addr} {cA4 : Nat} {A5 : Option Addr} {cA5 : Nat} {B0 : Option Addr} {cB0 : Nat} {B1 : Option Addr} {cB1 : Nat} {B2 : Option Addr} {cB2 : Nat} {B3 : Option Addr} {cB3 : Nat} {B4 : Option Addr} {cB4 : Nat} {B5 : Option Addr} {cB5 : Nat} (ha : IsJob w a A0 cA0 A1 cA1 A2 cA2 A3 cA3 A4 cA4 A5 cA5) (hb : IsJob w b B0 cB0 B1 cB1 B2 cB2 B3 cB3 B4 cB4 B5 cB5) (hs : ShortJ a) :
    Calls Try.prog 28 #[.agg #[.slice A0 a.cfg.ps.length cA0, .slice A1 a.cfg.xs.length cA1, .int .i64 a.cfg.l0, .slice A2 a.cfg.ws0.length cA2, .int .i64 a.cfg.l1, .slice A3 a.cfg.ws1.length cA3, .slice A4 a.streams.length cA4, .slice A5 a.acts.length cA5], .agg #[.slice B0 b.cfg.ps.length cB0, .slice B1 b.cfg.xs.length cB1, .int .i64 b.cfg.l0, .slice B2 b.cfg.ws0.length cB2, .int .i64 b.cfg.l1, .slice B3 b.cfg.ws1.length cB3, .slice B4 b.streams.length cB4, .slice B5 b.acts.length cB5]] w fun e w' => e = .returned (.bool (decide (a = b))) ∧ Below w.heap.size w w' := by
  have HP := Aside0.mk (SJ.start w (.slice A0 a.cfg.ps.length cA0) (.slice A1 a.cfg.xs.length cA1) (.int .i64 a.cfg.l0) (.slice A2 a.cfg.ws0.length cA2) (.int .i64 a.cfg.l1) (.slice A3 a.cfg.ws1.length cA3) (.slice A4 a.streams.length cA4) (.slice A5 a.acts.length cA5) (.slice B0 b.cfg.ps.length cB0) (.slice B1 b.cfg.xs.length cB1) (.int .i64 b.cfg.l0) (.slice B2 b.cfg.ws0.length cB2) (.int .i64 b.cfg.l1) (.slice B3 b.cfg.ws1.length cB3) (.slice B4 b.streams.length cB4) (.slice B5 b.acts.length cB5))
  have hcc := fun (X : World) (hX : Below w.heap.size w X) => refsame_calls (isCfg_below ha.cfg hX) (isCfg_below hb.cfg hX) hs.cfg
  have hca := fun (X : World) (hX : Below w.heap.size w X) => ints_same A5 cA5 a.acts B5 cB5 b.acts X (Kd.C_below ha.ac hX) ha.la (Kd.C_below hb.ac hX) hb.la hs.ac
  obtain ⟨qc, hqc⟩ : ∃ q, decide (a.cfg = b.cfg) = q := ⟨_, rfl⟩
  obtain ⟨qa, hqa⟩ : ∃ q, decide (a.acts = b.acts) = q := ⟨_, rfl⟩
  obtain ⟨r, hr⟩ : ∃ r, decide (a = b) = r := ⟨_, rfl⟩
  have hr' : r = decide (a.cfg = b.cfg ∧ a.acts = b.acts ∧ a.streams = b.streams) := by rw [← hr, decide_eq_decide]; exact (job_eq a b).symm
  have HRF : Aside0 ((qc = false → r = false) ∧ (qa = false → r = false) ∧ (a.streams ≠ b.streams → r = false) ∧ (qc = true → qa = true → a.streams = b.streams → r = true)) := ⟨by
    refine ⟨fun h => ?_, fun h => ?_, fun h => ?_, fun h1 h2 h3 => ?_⟩
    · rw [hr']; exact decide_eq_false (fun e => of_decide_eq_false (hqc.trans h) e.1)
    · rw [hr']; exact decide_eq_false (fun e => of_decide_eq_false (hqa.trans h) e.2.1)
    · rw [hr']; exact decide_eq_false (fun e => h e.2.2)
    · rw [hr']; exact decide_eq_true ⟨of_decide_eq_true (hqc.trans h1), of_decide_eq_true (hqa.trans h2), h3⟩⟩
  rw [hqc] at hcc
  rw [hqa] at hca
  rw [hr]
  have hsa := ha.st
  have hsb := hb.st
  have hla := ha.ls
  have hlb := hb.ls
  have HROW := Aside0.mk hs.rows
  have HDAT := Aside0.mk hs.data
  have hns := hs.st
  clear ha hb hs hqc hqa hr hr'
  generalize a.cfg.ps.length = n0 at *
  generalize a.cfg.xs.length = n1 at *
  generalize a.cfg.l0 = nl0 at *
  generalize a.cfg.ws0.length = n2 at *
  generalize a.cfg.l1 = nl1 at *
  generalize a.cfg.ws1.length = n3 at *
  generalize a.acts.length = n5 at *
  generalize b.cfg.ps.length = m0 at *
  generalize b.cfg.xs.length = m1 at *
  generalize b.cfg.l0 = ml0 at *
  generalize b.cfg.ws0.length = m2 at *
  generalize b.cfg.l1 = ml1 at *
  generalize b.cfg.ws1.length = m3 at *
  generalize b.acts.length = m5 at *
  generalize a.streams = sa at *
  generalize b.streams = sb at *
  obtain ⟨n4, hn4⟩ : ∃ n, sa.length = n := ⟨_, rfl⟩
  obtain ⟨m4, hm4⟩ : ∃ n, sb.length = n := ⟨_, rfl⟩
  rw [hn4] at HP hsa hla hns ⊢
  rw [hm4] at HP hsb hlb ⊢
  have HCC := Aside0.mk hcc
  have HCA := Aside0.mk hca
  have HN := Aside0.mk (And.intro hn4 hm4)
  have HSA := Aside0.mk hsa
  have HSB := Aside0.mk hsb
  have HNS := Aside0.mk hns
  clear hcc hca hn4 hm4 hsa hsb hla hlb hns
  obtain ⟨nq, hnq⟩ : ∃ q : Bool, ((n4 : Int) != (m4 : Int)) = q := ⟨_, rfl⟩
  have HNQ : Aside0 ((nq = false → n4 = m4) ∧ (nq = true → sa ≠ sb)) := ⟨⟨fun h => by rw [h] at hnq; simp at hnq; omega, fun h e => by
    rw [h] at hnq
    have h1 := HN.out.1
    have h2 := HN.out.2
    rw [e] at h1
    simp at hnq
    omega⟩⟩
  have HNB := Aside0.mk hnq
  clear hnq
  go_enter Try.func28, Try.ntmps28
  go_upto_region 1 with fail
  generalize (w.alloc (.cells #[.slice A0 n0 cA0, .slice A1 n1 cA1, .int .i64 nl0, .slice A2 n2 cA2, .int .i64 nl1, .slice A3 n3 cA3, .slice A4 n4 cA4, .slice A5 n5 cA5] 48)).alloc (.cells #[.slice B0 m0 cB0, .slice B1 m1 cB1, .int .i64 ml0, .slice B2 m2 cB2, .int .i64 ml1, .slice B3 m3 cB3, .slice B4 m4 cB4, .slice B5 m5 cB5] 48) = w1 at *
  go_cut [29] (fun s29 wx => s29 = .bool (!qc || (!qa || nq)) ∧ Aside0 (SJ w wx (.slice A0 n0 cA0) (.slice A1 n1 cA1) (.int .i64 nl0) (.slice A2 n2 cA2) (.int .i64 nl1) (.slice A3 n3 cA3) (.slice A4 n4 cA4) (.slice A5 n5 cA5) (.slice B0 m0 cB0) (.slice B1 m1 cB1) (.int .i64 ml0) (.slice B2 m2 cB2) (.int .i64 ml1) (.slice B3 m3 cB3) (.slice B4 m4 cB4) (.slice B5 m5 cB5)))
  case first =>
    have ha0 := HP.out.a0
    have hb0 := HP.out.b0
    have ha1 := HP.out.a1
    have hb1 := HP.out.b1
    have ha2 := HP.out.a2
    have hb2 := HP.out.b2
    have ha3 := HP.out.a3
    have hb3 := HP.out.b3
    have ha4 := HP.out.a4
    have hb4 := HP.out.b4
    have ha5 := HP.out.a5
    have hb5 := HP.out.b5
    go_wp2_with fail
    clear ha0 hb0 ha1 hb1 ha2 hb2 ha3 hb3 ha4 hb4 ha5 hb5
    refine (HCC.out _ HP.out.bel).mono ?_
    rintro e w3 ⟨rfl, hbw⟩
    have HP3 := Aside0.mk (HP.out.to hbw)
    clear hbw HP HCC
    cases qc with
    | false =>
      go_wp2
      go_meet
      exact ⟨rfl, HP3⟩
    | true =>
      have ha7 := HP3.out.a7
      have hb7 := HP3.out.b7
      go_wp2_with fail
      clear ha7 hb7
      refine (HCA.out _ HP3.out.bel).mono ?_
      rintro e w4 ⟨rfl, hbw⟩
      have HP4 := Aside0.mk (HP3.out.to hbw)
      clear hbw HP3 HCA
      cases qa with
      | false =>
        go_wp2
        go_meet
        exact ⟨rfl, HP4⟩
      | true =>
        have hnq := HNB.out
        have ha6 := HP4.out.a6
        have hb6 := HP4.out.b6
        go_wp2
        go_meet
        exact ⟨rfl, HP4⟩
  case rest =>
    obtain ⟨rfl, HP2⟩ := hcut
    clear HP HCC HCA HNB
    obtain ⟨t, ht⟩ : ∃ t : Bool, (!qc || (!qa || nq)) = t := ⟨_, rfl⟩
    rw [ht]
    cases t with
    | true =>
      have HF : Aside0 (r = false) := ⟨by
        cases qc with
        | false => exact HRF.out.1 rfl
        | true => cases qa with
          | false => exact HRF.out.2.1 rfl
          | true => cases nq with
            | false => cases ht
            | true => exact HRF.out.2.2.1 (HNQ.out.2 rfl)⟩
      clear ht
      go_wp2
      go_ret
      exact ⟨by rw [HF.out]; rfl, HP2.out.bel⟩
    | false =>
      have ht3 : qc = true ∧ qa = true ∧ nq = false := by
        cases qc <;> cases qa <;> cases nq <;> first | (cases ht; done) | exact ⟨rfl, rfl, rfl⟩
      have HT3 := Aside0.mk (And.intro ht3.1 ht3.2.1)
      obtain rfl := HNQ.out.1 ht3.2.2
      clear ht ht3
      have hns := HNS.out
      go_wp2_with fail
      go_loopw [5] (fun v wr => ∃ x : Int, 0 ≤ x ∧ x ≤ n4 ∧ v = .int .i64 x ∧ Aside0 (sa.take x.toNat = sb.take x.toNat) ∧ Aside0 (SJ w wr (.slice A0 n0 cA0) (.slice A1 n1 cA1) (.int .i64 nl0) (.slice A2 n2 cA2) (.int .i64 nl1) (.slice A3 n3 cA3) (.slice A4 n4 cA4) (.slice A5 n5 cA5) (.slice B0 m0 cB0) (.slice B1 m1 cB1) (.int .i64 ml0) (.slice B2 m2 cB2) (.int .i64 ml1) (.slice B3 m3 cB3) (.slice B4 n4 cB4) (.slice B5 m5 cB5))) (fun v _ => n4 - (intOf v).toNat)
      case atStart => exact ⟨0, by omega, by omega, rfl, ⟨rfl⟩, HP2⟩
      case round =>
        clear HP2
        obtain ⟨x, hx0, hx1, rfl, HT, HX⟩ := hrel
        have ha6 := HX.out.a6
        have hb6 := HX.out.b6
        by_cases hlt : x < n4
        · have hd : decide (x < (n4 : Int)) = true := decide_eq_true hlt
          obtain ⟨ad, P, cP, e1, hg, hlP, hrP⟩ := at_S HSA.out x hx0 hlt
          cases e1
          obtain ⟨bd, Q, cQ, e2, hg', hlQ, hrQ⟩ := at_S HSB.out x hx0 hlt
          cases e2
          have HG := Aside0.mk (And.intro hg hg')
          have hg1 := pw_cell_below HX.out.bel hg
          have hg2 := pw_cell_below HX.out.bel hg'
          have hix : x.toNat < sa.length := by rw [HN.out.1]; omega
          have hmem : rdS sa x ∈ sa := by
            unfold rdS
            rw [List.getD_eq_getElem?_getD, List.getElem?_eq_getElem hix]
            exact List.getElem_mem hix
          have hrl := HROW.out _ hmem
          have HRD : Aside0 (∀ q ∈ rdS sa x, q.data.length ≤ 9223372036854775807) := ⟨HDAT.out _ hmem⟩
          have HSN : Aside0 (rdS sa x = rdS sb x → sa.take (x + 1).toNat = sb.take (x + 1).toNat) := ⟨take_succ_of [] sa sb hx0 (by rw [HN.out.1]; exact hlt) (by rw [HN.out.2]; exact hlt) HT.out⟩
          have HNE : Aside0 (rdS sa x ≠ rdS sb x → r = false) := ⟨fun h => HRF.out.2.2.1 (fun e => h (by rw [e]))⟩
          clear hg hg' hix hmem hlP hlQ HT
          generalize rdS sa x = la at *
          generalize rdS sb x = lb at *
          obtain ⟨p, hp⟩ : ∃ n, la.length = n := ⟨_, rfl⟩
          obtain ⟨q, hq⟩ : ∃ n, lb.length = n := ⟨_, rfl⟩
          rw [hp] at hg1 HG hrP hrl
          rw [hq] at hg2 HG hrQ
          have HPQ := Aside0.mk (And.intro hp hq)
          have HRP := Aside0.mk hrP
          have HRQ := Aside0.mk hrQ
          clear hp hq hrP hrQ
          have p0 := eq_true hx0
          have p1 := eq_true hlt
          by_cases gl : p = q
          · subst gl
            have q0 : ((p : Int) != (p : Int)) = false := by simp
            go_wp2_with fail
            go_quiet (fail)
            have HX2 := Aside0.mk (HX.out.drewN nq)
            clear HX ha6 hb6 hg1 hg2 q0
            go_wp2_with fail
            go_loopw [6] (fun v wr => ∃ y : Int, 0 ≤ y ∧ y ≤ p ∧ v = .int .i64 y ∧ Aside0 (la.take y.toNat = lb.take y.toNat) ∧ Aside0 (SJ w wr (.slice A0 n0 cA0) (.slice A1 n1 cA1) (.int .i64 nl0) (.slice A2 n2 cA2) (.int .i64 nl1) (.slice A3 n3 cA3) (.slice (some ad) n4 cA4) (.slice A5 n5 cA5) (.slice B0 m0 cB0) (.slice B1 m1 cB1) (.int .i64 ml0) (.slice B2 m2 cB2) (.int .i64 ml1) (.slice B3 m3 cB3) (.slice (some bd) n4 cB4) (.slice B5 m5 cB5))) (fun v _ => p - (intOf v).toNat)
            case atStart => exact ⟨0, by omega, by omega, rfl, ⟨rfl⟩, HX2⟩
            case round =>
              clear HX2
              obtain ⟨y, hy0, hy1, rfl, HTy, HX⟩ := hrel
              have hg1 := pw_cell_below HX.out.bel HG.out.1
              have hg2 := pw_cell_below HX.out.bel HG.out.2
              have ha6 := HX.out.a6
              have hb6 := HX.out.b6
              by_cases hlty : y < p
              · have hdy : decide (y < (p : Int)) = true := decide_eq_true hlty
                obtain ⟨ud, D, cD, e1, hu0, hu1, hu2, hu3, hlD, hrD⟩ := at_Q HRP.out y hy0 hlty
                cases e1
                obtain ⟨vd, E, cE, e2, hv0, hv1, hv2, hv3, hlE, hrE⟩ := at_Q HRQ.out y hy0 hlty
                cases e2
                have HUV := Aside0.mk (And.intro hu0 (And.intro hu1 (And.intro hu2 (And.intro hu3 (And.intro hv0 (And.intro hv1 (And.intro hv2 hv3)))))))
                have hiy : y.toNat < la.length := by rw [HPQ.out.1]; omega
                have hmem : rdQ la y ∈ la := by
                  unfold rdQ
                  rw [List.getD_eq_getElem?_getD, List.getElem?_eq_getElem hiy]
                  exact List.getElem_mem hiy
                have hdl := HRD.out _ hmem
                have HSY : Aside0 (rdQ la y = rdQ lb y → la.take (y + 1).toNat = lb.take (y + 1).toNat) := ⟨take_succ_of zreq la lb hy0 (by rw [HPQ.out.1]; exact hlty) (by rw [HPQ.out.2]; exact hlty) HTy.out⟩
                have HNY : Aside0 (rdQ la y ≠ rdQ lb y → r = false) := ⟨fun h => HNE.out (fun e => h (by rw [e]))⟩
                have hrs := fun (X : World) (hX : Below w.heap.size w X) => req_same (rdQ la y) (rdQ lb y) D cD E cE X (Kd.C_below hrD hX) hlD (Kd.C_below hrE hX) hlE hdl
                clear hu0 hu1 hu2 hu3 hv0 hv1 hv2 hv3 hlD hrD hlE hrE hiy hmem hdl HTy
                generalize rdQ la y = u at *
                generalize rdQ lb y = v at *
                have p2 := eq_true hy0
                have p3 := eq_true hlty
                by_cases huv : u = v
                · rw [decide_eq_true huv] at hrs
                  have HRS := Aside0.mk hrs
                  have HY := Aside0.mk (HSY.out huv)
                  clear hrs huv HSY HNY
                  go_upto_region 11 with fail
                  refine start_ (n := 18) (S := fun w' => w'.cell? ⟨w.heap.size, 6, none⟩ = some (.slice (some ad) n4 cA4) ∧ w'.cell? ⟨w.heap.size + 1, 6, none⟩ = some (.slice (some bd) n4 cB4) ∧ w'.cell? (ad.add x.toNat) = some (.slice (some ud) p cP) ∧ w'.cell? (bd.add x.toNat) = some (.slice (some vd) p cQ) ∧ w'.cell? (ud.add (y.toNat * 4)) = some (.int .i64 u.op) ∧ w'.cell? ⟨(ud.add (y.toNat * 4)).block, (ud.add (y.toNat * 4)).off + 1, none⟩ = some (.int .i64 u.port) ∧ w'.cell? ⟨(ud.add (y.toNat * 4)).block, (ud.add (y.toNat * 4)).off + 2, none⟩ = some (.int .u64 u.addr) ∧ w'.cell? ⟨(ud.add (y.toNat * 4)).block, (ud.add (y.toNat * 4)).off + 3, none⟩ = some (.slice D u.data.length cD) ∧ w'.cell? (vd.add (y.toNat * 4)) = some (.int .i64 v.op) ∧ w'.cell? ⟨(vd.add (y.toNat * 4)).block, (vd.add (y.toNat * 4)).off + 1, none⟩ = some (.int .i64 v.port) ∧ w'.cell? ⟨(vd.add (y.toNat * 4)).block, (vd.add (y.toNat * 4)).off + 2, none⟩ = some (.int .u64 v.addr) ∧ w'.cell? ⟨(vd.add (y.toNat * 4)).block, (vd.add (y.toNat * 4)).off + 3, none⟩ = some (.slice E v.data.length cE)) (ds := []) #[false, false, false, false, false, false, false, false, false, false, false, false, false, false, false, false, false, false] (by kernel_rfl) rfl rfl ⟨HX.out.drew.a6, HX.out.drew.b6, pw_cell_below HX.out.drew.bel HG.out.1, pw_cell_below HX.out.drew.bel HG.out.2, pw_cell_below HX.out.drew.bel HUV.out.1, pw_cell_below HX.out.drew.bel HUV.out.2.1, pw_cell_below HX.out.drew.bel HUV.out.2.2.1, pw_cell_below HX.out.drew.bel HUV.out.2.2.2.1, pw_cell_below HX.out.drew.bel HUV.out.2.2.2.2.1, pw_cell_below HX.out.drew.bel HUV.out.2.2.2.2.2.1, pw_cell_below HX.out.drew.bel HUV.out.2.2.2.2.2.2.1, pw_cell_below HX.out.drew.bel HUV.out.2.2.2.2.2.2.2⟩ (fun hHeld => ?_)
                  refine pure_ (i := 0) (N := some 60) (v := ?_) (a' := ?_) #[true, false, false, false, false, false, false, false, false, false, false, false, false, false, false, false, false, false] rfl rfl (by kernel_rfl) (fun _ _ _ h => h) (Or.inl ⟨by rfl, ?_⟩) ?_ ?_
                  rotate_left
                  · intro w'
                    go_simp
                    with_reducible rfl
                  rotate_left
                  · simp only [Act.put, List.setIfInBounds_toArray, List.set_cons_zero, List.set_cons_succ, i64_w, i32_w]
                    rfl
                  refine pure_ (i := 2) (N := some 62) (v := ?_) (a' := ?_) #[true, false, true, false, false, false, false, false, false, false, false, false, false, false, false, false, false, false] rfl rfl (by kernel_rfl) (fun _ _ _ h => h) (Or.inl ⟨by rfl, ?_⟩) ?_ ?_
                  rotate_left
                  · intro w'
                    go_simp
                    with_reducible rfl
                  rotate_left
                  · simp only [Act.put, List.setIfInBounds_toArray, List.set_cons_zero, List.set_cons_succ, i64_w, i32_w]
                    rfl
                  refine pure_ (i := 5) (N := some 65) (v := ?_) (a' := ?_) #[true, false, true, false, false, true, false, false, false, false, false, false, false, false, false, false, false, false] rfl rfl (by kernel_rfl) (fun _ _ _ h => h) (Or.inl ⟨by rfl, ?_⟩) ?_ ?_
                  rotate_left
                  · intro w'
                    go_simp
                    with_reducible rfl
                  rotate_left
                  · simp only [Act.put, List.setIfInBounds_toArray, List.set_cons_zero, List.set_cons_succ, i64_w, i32_w]
                    rfl
                  refine pure_ (i := 8) (N := some 68) (v := ?_) (a' := ?_) #[true, false, true, false, false, true, false, false, true, false, false, false, false, false, false, false, false, false] rfl rfl (by kernel_rfl) (fun _ _ _ h => h) (Or.inl ⟨by rfl, ?_⟩) ?_ ?_
                  rotate_left
                  · intro w'
                    go_simp
                    with_reducible rfl
                  rotate_left
                  · simp only [Act.put, List.setIfInBounds_toArray, List.set_cons_zero, List.set_cons_succ, i64_w, i32_w]
                    rfl
                  refine pure_ (i := 10) (N := some 70) (v := ?_) (a' := ?_) #[true, false, true, false, false, true, false, false, true, false, true, false, false, false, false, false, false, false] rfl rfl (by kernel_rfl) (fun _ _ _ h => h) (Or.inl ⟨by rfl, ?_⟩) ?_ ?_
                  rotate_left
                  · intro w'
                    go_simp
                    with_reducible rfl
                  rotate_left
                  · simp only [Act.put, List.setIfInBounds_toArray, List.set_cons_zero, List.set_cons_succ, i64_w, i32_w]
                    rfl
                  refine pure_ (i := 13) (N := some 73) (v := ?_) (a' := ?_) #[true, false, true, false, false, true, false, false, true, false, true, false, false, true, false, false, false, false] rfl rfl (by kernel_rfl) (fun _ _ _ h => h) (Or.inl ⟨by rfl, ?_⟩) ?_ ?_
                  rotate_left
                  · intro w'
                    go_simp
                    with_reducible rfl
                  rotate_left
                  · simp only [Act.put, List.setIfInBounds_toArray, List.set_cons_zero, List.set_cons_succ, i64_w, i32_w]
                    rfl
                  refine take_ (i := 1) (N := some 61) (v := ?_) (a' := ?_) #[true, true, true, false, false, true, false, false, true, false, true, false, false, true, false, false, false, false] rfl rfl (by kernel_rfl) (fun _ _ _ h => h) (Or.inl ⟨by rfl, ?_⟩) hHeld ?_ ?_
                  rotate_left
                  · rintro w' ⟨s0, s1, s2, s3, s4, s5, s6, s7, s8, s9, s10, s11⟩
                    go_simp
                    with_reducible rfl
                  rotate_left
                  · simp only [Act.put, List.setIfInBounds_toArray, List.set_cons_zero, List.set_cons_succ, i64_w, i32_w]
                    rfl
                  refine pure_ (i := 3) (N := some 63) (v := ?_) (a' := ?_) #[true, true, true, true, false, true, false, false, true, false, true, false, false, true, false, false, false, false] rfl rfl (by kernel_rfl) (fun _ _ _ h => h) (Or.inl ⟨by rfl, ?_⟩) ?_ ?_
                  rotate_left
                  · intro w'
                    go_simp
                    with_reducible rfl
                  rotate_left
                  · simp only [Act.put, List.setIfInBounds_toArray, List.set_cons_zero, List.set_cons_succ, i64_w, i32_w]
                    rfl
                  refine take_ (i := 4) (N := some 64) (v := ?_) (a' := ?_) #[true, true, true, true, true, true, false, false, true, false, true, false, false, true, false, false, false, false] rfl rfl (by kernel_rfl) (fun _ _ _ h => h) (Or.inl ⟨by rfl, ?_⟩) hHeld ?_ ?_
                  rotate_left
                  · rintro w' ⟨s0, s1, s2, s3, s4, s5, s6, s7, s8, s9, s10, s11⟩
                    go_simp
                    with_reducible rfl
                  rotate_left
                  · simp only [Act.put, List.setIfInBounds_toArray, List.set_cons_zero, List.set_cons_succ, i64_w, i32_w]
                    rfl
                  refine pure_ (i := 6) (N := some 66) (v := ?_) (a' := ?_) #[true, true, true, true, true, true, true, false, true, false, true, false, false, true, false, false, false, false] rfl rfl (by kernel_rfl) (fun _ _ _ h => h) (Or.inl ⟨by rfl, ?_⟩) ?_ ?_
                  rotate_left
                  · intro w'
                    go_simp
                    with_reducible rfl
                  rotate_left
                  · simp only [Act.put, List.setIfInBounds_toArray, List.set_cons_zero, List.set_cons_succ, i64_w, i32_w]
                    rfl
                  refine take_ (i := 7) (N := some 67) (v := ?_) (a' := ?_) #[true, true, true, true, true, true, true, true, true, false, true, false, false, true, false, false, false, false] rfl rfl (by kernel_rfl) (fun _ _ _ h => h) (Or.inl ⟨by rfl, ?_⟩) hHeld ?_ ?_
                  rotate_left
                  · rintro w' ⟨s0, s1, s2, s3, s4, s5, s6, s7, s8, s9, s10, s11⟩
                    go_simp
                    with_reducible rfl
                  rotate_left
                  · simp only [Act.put, List.setIfInBounds_toArray, List.set_cons_zero, List.set_cons_succ, i64_w, i32_w]
                    rfl
                  refine take_ (i := 9) (N := some 69) (v := ?_) (a' := ?_) #[true, true, true, true, true, true, true, true, true, true, true, false, false, true, false, false, false, false] rfl rfl (by kernel_rfl) (fun _ _ _ h => h) (Or.inl ⟨by rfl, ?_⟩) hHeld ?_ ?_
                  rotate_left
                  · rintro w' ⟨s0, s1, s2, s3, s4, s5, s6, s7, s8, s9, s10, s11⟩
                    go_simp
                    with_reducible rfl
                  rotate_left
                  · simp only [Act.put, List.setIfInBounds_toArray, List.set_cons_zero, List.set_cons_succ, i64_w, i32_w]
                    rfl
                  refine pure_ (i := 11) (N := some 71) (v := ?_) (a' := ?_) #[true, true, true, true, true, true, true, true, true, true, true, true, false, true, false, false, false, false] rfl rfl (by kernel_rfl) (fun _ _ _ h => h) (Or.inl ⟨by rfl, ?_⟩) ?_ ?_
                  rotate_left
                  · intro w'
                    go_simp
                    with_reducible rfl
                  rotate_left
                  · simp only [Act.put, List.setIfInBounds_toArray, List.set_cons_zero, List.set_cons_succ, i64_w, i32_w]
                    rfl
                  refine take_ (i := 12) (N := some 72) (v := ?_) (a' := ?_) #[true, true, true, true, true, true, true, true, true, true, true, true, true, true, false, false, false, false] rfl rfl (by kernel_rfl) (fun _ _ _ h => h) (Or.inl ⟨by rfl, ?_⟩) hHeld ?_ ?_
                  rotate_left
                  · rintro w' ⟨s0, s1, s2, s3, s4, s5, s6, s7, s8, s9, s10, s11⟩
                    go_simp
                    with_reducible rfl
                  rotate_left
                  · simp only [Act.put, List.setIfInBounds_toArray, List.set_cons_zero, List.set_cons_succ, i64_w, i32_w]
                    rfl
                  refine pure_ (i := 14) (N := some 74) (v := ?_) (a' := ?_) #[true, true, true, true, true, true, true, true, true, true, true, true, true, true, true, false, false, false] rfl rfl (by kernel_rfl) (fun _ _ _ h => h) (Or.inl ⟨by rfl, ?_⟩) ?_ ?_
                  rotate_left
                  · intro w'
                    go_simp
                    with_reducible rfl
                  rotate_left
                  · simp only [Act.put, List.setIfInBounds_toArray, List.set_cons_zero, List.set_cons_succ, i64_w, i32_w]
                    rfl
                  refine take_ (i := 15) (N := some 75) (v := ?_) (a' := ?_) #[true, true, true, true, true, true, true, true, true, true, true, true, true, true, true, true, false, false] rfl rfl (by kernel_rfl) (fun _ _ _ h => h) (Or.inl ⟨by rfl, ?_⟩) hHeld ?_ ?_
                  rotate_left
                  · rintro w' ⟨s0, s1, s2, s3, s4, s5, s6, s7, s8, s9, s10, s11⟩
                    go_simp
                    with_reducible rfl
                  rotate_left
                  · simp only [Act.put, List.setIfInBounds_toArray, List.set_cons_zero, List.set_cons_succ, i64_w, i32_w]
                    rfl
                  refine one_ (i := 16) (N := some 76) #[true, true, true, true, true, true, true, true, true, true, true, true, true, true, true, true, true, false] rfl rfl (by kernel_rfl) (by decide) (fun K hK => ?_)
                  refine goes_ Try.func61 (by kernel_rfl) rfl #[.agg #[.int .i64 u.op, .int .i64 u.port, .int .u64 u.addr, .slice D u.data.length cD], .agg #[.int .i64 v.op, .int .i64 v.port, .int .u64 v.addr, .slice E v.data.length cE]] (by rfl) rfl rfl (by simp only [List.map_toArray, List.map_cons, List.map_nil]; rfl) ?_
                  with_reducible refine (HRS.out _ HX.out.drew.bel).mono ?_
                  rintro e w3 ⟨rfl, hbw⟩
                  refine ⟨_, rfl, ?_⟩
                  have HX3 := Aside0.mk (HX.out.drew.to hbw)
                  clear hbw
                  refine hK.out _ _ ⟨HX3.out.a6, HX3.out.b6, pw_cell_below HX3.out.bel HG.out.1, pw_cell_below HX3.out.bel HG.out.2, pw_cell_below HX3.out.bel HUV.out.1, pw_cell_below HX3.out.bel HUV.out.2.1, pw_cell_below HX3.out.bel HUV.out.2.2.1, pw_cell_below HX3.out.bel HUV.out.2.2.2.1, pw_cell_below HX3.out.bel HUV.out.2.2.2.2.1, pw_cell_below HX3.out.bel HUV.out.2.2.2.2.2.1, pw_cell_below HX3.out.bel HUV.out.2.2.2.2.2.2.1, pw_cell_below HX3.out.bel HUV.out.2.2.2.2.2.2.2⟩ (fun hHeld => ?_)
                  clear hK K
                  refine norm_ (a' := ?_) ?_ ?_
                  rotate_left
                  · show Act.put _ (some 76) _ = _
                    simp only [Act.put, List.setIfInBounds_toArray, List.set_cons_zero, List.set_cons_succ, i64_w, i32_w]
                    rfl
                  refine pure_ (i := 17) (N := some 77) (v := ?_) (a' := ?_) #[true, true, true, true, true, true, true, true, true, true, true, true, true, true, true, true, true, true] rfl rfl (by kernel_rfl) (fun _ _ _ h => h) (Or.inl ⟨by rfl, ?_⟩) ?_ ?_
                  rotate_left
                  · intro w'
                    go_simp
                    with_reducible rfl
                  rotate_left
                  · simp only [Act.put, List.setIfInBounds_toArray, List.set_cons_zero, List.set_cons_succ, i64_w, i32_w]
                    rfl
                  refine done_ (by kernel_rfl) ?_
                  clear ha6 hb6 hg1 hg2
                  go_wp2
                  go_roundw
                  case rel => exact ⟨y + 1, by omega, by omega, by go_num, HY, HX3⟩
                  case measure => simp [intOf]; omega
                · rw [decide_eq_false huv] at hrs
                  have HRS := Aside0.mk hrs
                  have HF := Aside0.mk (HNY.out huv)
                  clear hrs huv HSY HNY
                  go_upto_region 11 with fail
                  refine start_ (n := 18) (S := fun w' => w'.cell? ⟨w.heap.size, 6, none⟩ = some (.slice (some ad) n4 cA4) ∧ w'.cell? ⟨w.heap.size + 1, 6, none⟩ = some (.slice (some bd) n4 cB4) ∧ w'.cell? (ad.add x.toNat) = some (.slice (some ud) p cP) ∧ w'.cell? (bd.add x.toNat) = some (.slice (some vd) p cQ) ∧ w'.cell? (ud.add (y.toNat * 4)) = some (.int .i64 u.op) ∧ w'.cell? ⟨(ud.add (y.toNat * 4)).block, (ud.add (y.toNat * 4)).off + 1, none⟩ = some (.int .i64 u.port) ∧ w'.cell? ⟨(ud.add (y.toNat * 4)).block, (ud.add (y.toNat * 4)).off + 2, none⟩ = some (.int .u64 u.addr) ∧ w'.cell? ⟨(ud.add (y.toNat * 4)).block, (ud.add (y.toNat * 4)).off + 3, none⟩ = some (.slice D u.data.length cD) ∧ w'.cell? (vd.add (y.toNat * 4)) = some (.int .i64 v.op) ∧ w'.cell? ⟨(vd.add (y.toNat * 4)).block, (vd.add (y.toNat * 4)).off + 1, none⟩ = some (.int .i64 v.port) ∧ w'.cell? ⟨(vd.add (y.toNat * 4)).block, (vd.add (y.toNat * 4)).off + 2, none⟩ = some (.int .u64 v.addr) ∧ w'.cell? ⟨(vd.add (y.toNat * 4)).block, (vd.add (y.toNat * 4)).off + 3, none⟩ = some (.slice E v.data.length cE)) (ds := []) #[false, false, false, false, false, false, false, false, false, false, false, false, false, false, false, false, false, false] (by kernel_rfl) rfl rfl ⟨HX.out.drew.a6, HX.out.drew.b6, pw_cell_below HX.out.drew.bel HG.out.1, pw_cell_below HX.out.drew.bel HG.out.2, pw_cell_below HX.out.drew.bel HUV.out.1, pw_cell_below HX.out.drew.bel HUV.out.2.1, pw_cell_below HX.out.drew.bel HUV.out.2.2.1, pw_cell_below HX.out.drew.bel HUV.out.2.2.2.1, pw_cell_below HX.out.drew.bel HUV.out.2.2.2.2.1, pw_cell_below HX.out.drew.bel HUV.out.2.2.2.2.2.1, pw_cell_below HX.out.drew.bel HUV.out.2.2.2.2.2.2.1, pw_cell_below HX.out.drew.bel HUV.out.2.2.2.2.2.2.2⟩ (fun hHeld => ?_)
                  refine pure_ (i := 0) (N := some 60) (v := ?_) (a' := ?_) #[true, false, false, false, false, false, false, false, false, false, false, false, false, false, false, false, false, false] rfl rfl (by kernel_rfl) (fun _ _ _ h => h) (Or.inl ⟨by rfl, ?_⟩) ?_ ?_
                  rotate_left
                  · intro w'
                    go_simp
                    with_reducible rfl
                  rotate_left
                  · simp only [Act.put, List.setIfInBounds_toArray, List.set_cons_zero, List.set_cons_succ, i64_w, i32_w]
                    rfl
                  refine pure_ (i := 2) (N := some 62) (v := ?_) (a' := ?_) #[true, false, true, false, false, false, false, false, false, false, false, false, false, false, false, false, false, false] rfl rfl (by kernel_rfl) (fun _ _ _ h => h) (Or.inl ⟨by rfl, ?_⟩) ?_ ?_
                  rotate_left
                  · intro w'
                    go_simp
                    with_reducible rfl
                  rotate_left
                  · simp only [Act.put, List.setIfInBounds_toArray, List.set_cons_zero, List.set_cons_succ, i64_w, i32_w]
                    rfl
                  refine pure_ (i := 5) (N := some 65) (v := ?_) (a' := ?_) #[true, false, true, false, false, true, false, false, false, false, false, false, false, false, false, false, false, false] rfl rfl (by kernel_rfl) (fun _ _ _ h => h) (Or.inl ⟨by rfl, ?_⟩) ?_ ?_
                  rotate_left
                  · intro w'
                    go_simp
                    with_reducible rfl
                  rotate_left
                  · simp only [Act.put, List.setIfInBounds_toArray, List.set_cons_zero, List.set_cons_succ, i64_w, i32_w]
                    rfl
                  refine pure_ (i := 8) (N := some 68) (v := ?_) (a' := ?_) #[true, false, true, false, false, true, false, false, true, false, false, false, false, false, false, false, false, false] rfl rfl (by kernel_rfl) (fun _ _ _ h => h) (Or.inl ⟨by rfl, ?_⟩) ?_ ?_
                  rotate_left
                  · intro w'
                    go_simp
                    with_reducible rfl
                  rotate_left
                  · simp only [Act.put, List.setIfInBounds_toArray, List.set_cons_zero, List.set_cons_succ, i64_w, i32_w]
                    rfl
                  refine pure_ (i := 10) (N := some 70) (v := ?_) (a' := ?_) #[true, false, true, false, false, true, false, false, true, false, true, false, false, false, false, false, false, false] rfl rfl (by kernel_rfl) (fun _ _ _ h => h) (Or.inl ⟨by rfl, ?_⟩) ?_ ?_
                  rotate_left
                  · intro w'
                    go_simp
                    with_reducible rfl
                  rotate_left
                  · simp only [Act.put, List.setIfInBounds_toArray, List.set_cons_zero, List.set_cons_succ, i64_w, i32_w]
                    rfl
                  refine pure_ (i := 13) (N := some 73) (v := ?_) (a' := ?_) #[true, false, true, false, false, true, false, false, true, false, true, false, false, true, false, false, false, false] rfl rfl (by kernel_rfl) (fun _ _ _ h => h) (Or.inl ⟨by rfl, ?_⟩) ?_ ?_
                  rotate_left
                  · intro w'
                    go_simp
                    with_reducible rfl
                  rotate_left
                  · simp only [Act.put, List.setIfInBounds_toArray, List.set_cons_zero, List.set_cons_succ, i64_w, i32_w]
                    rfl
                  refine take_ (i := 1) (N := some 61) (v := ?_) (a' := ?_) #[true, true, true, false, false, true, false, false, true, false, true, false, false, true, false, false, false, false] rfl rfl (by kernel_rfl) (fun _ _ _ h => h) (Or.inl ⟨by rfl, ?_⟩) hHeld ?_ ?_
                  rotate_left
                  · rintro w' ⟨s0, s1, s2, s3, s4, s5, s6, s7, s8, s9, s10, s11⟩
                    go_simp
                    with_reducible rfl
                  rotate_left
                  · simp only [Act.put, List.setIfInBounds_toArray, List.set_cons_zero, List.set_cons_succ, i64_w, i32_w]
                    rfl
                  refine pure_ (i := 3) (N := some 63) (v := ?_) (a' := ?_) #[true, true, true, true, false, true, false, false, true, false, true, false, false, true, false, false, false, false] rfl rfl (by kernel_rfl) (fun _ _ _ h => h) (Or.inl ⟨by rfl, ?_⟩) ?_ ?_
                  rotate_left
                  · intro w'
                    go_simp
                    with_reducible rfl
                  rotate_left
                  · simp only [Act.put, List.setIfInBounds_toArray, List.set_cons_zero, List.set_cons_succ, i64_w, i32_w]
                    rfl
                  refine take_ (i := 4) (N := some 64) (v := ?_) (a' := ?_) #[true, true, true, true, true, true, false, false, true, false, true, false, false, true, false, false, false, false] rfl rfl (by kernel_rfl) (fun _ _ _ h => h) (Or.inl ⟨by rfl, ?_⟩) hHeld ?_ ?_
                  rotate_left
                  · rintro w' ⟨s0, s1, s2, s3, s4, s5, s6, s7, s8, s9, s10, s11⟩
                    go_simp
                    with_reducible rfl
                  rotate_left
                  · simp only [Act.put, List.setIfInBounds_toArray, List.set_cons_zero, List.set_cons_succ, i64_w, i32_w]
                    rfl
                  refine pure_ (i := 6) (N := some 66) (v := ?_) (a' := ?_) #[true, true, true, true, true, true, true, false, true, false, true, false, false, true, false, false, false, false] rfl rfl (by kernel_rfl) (fun _ _ _ h => h) (Or.inl ⟨by rfl, ?_⟩) ?_ ?_
                  rotate_left
                  · intro w'
                    go_simp
                    with_reducible rfl
                  rotate_left
                  · simp only [Act.put, List.setIfInBounds_toArray, List.set_cons_zero, List.set_cons_succ, i64_w, i32_w]
                    rfl
                  refine take_ (i := 7) (N := some 67) (v := ?_) (a' := ?_) #[true, true, true, true, true, true, true, true, true, false, true, false, false, true, false, false, false, false] rfl rfl (by kernel_rfl) (fun _ _ _ h => h) (Or.inl ⟨by rfl, ?_⟩) hHeld ?_ ?_
                  rotate_left
                  · rintro w' ⟨s0, s1, s2, s3, s4, s5, s6, s7, s8, s9, s10, s11⟩
                    go_simp
                    with_reducible rfl
                  rotate_left
                  · simp only [Act.put, List.setIfInBounds_toArray, List.set_cons_zero, List.set_cons_succ, i64_w, i32_w]
                    rfl
                  refine take_ (i := 9) (N := some 69) (v := ?_) (a' := ?_) #[true, true, true, true, true, true, true, true, true, true, true, false, false, true, false, false, false, false] rfl rfl (by kernel_rfl) (fun _ _ _ h => h) (Or.inl ⟨by rfl, ?_⟩) hHeld ?_ ?_
                  rotate_left
                  · rintro w' ⟨s0, s1, s2, s3, s4, s5, s6, s7, s8, s9, s10, s11⟩
                    go_simp
                    with_reducible rfl
                  rotate_left
                  · simp only [Act.put, List.setIfInBounds_toArray, List.set_cons_zero, List.set_cons_succ, i64_w, i32_w]
                    rfl
                  refine pure_ (i := 11) (N := some 71) (v := ?_) (a' := ?_) #[true, true, true, true, true, true, true, true, true, true, true, true, false, true, false, false, false, false] rfl rfl (by kernel_rfl) (fun _ _ _ h => h) (Or.inl ⟨by rfl, ?_⟩) ?_ ?_
                  rotate_left
                  · intro w'
                    go_simp
                    with_reducible rfl
                  rotate_left
                  · simp only [Act.put, List.setIfInBounds_toArray, List.set_cons_zero, List.set_cons_succ, i64_w, i32_w]
                    rfl
                  refine take_ (i := 12) (N := some 72) (v := ?_) (a' := ?_) #[true, true, true, true, true, true, true, true, true, true, true, true, true, true, false, false, false, false] rfl rfl (by kernel_rfl) (fun _ _ _ h => h) (Or.inl ⟨by rfl, ?_⟩) hHeld ?_ ?_
                  rotate_left
                  · rintro w' ⟨s0, s1, s2, s3, s4, s5, s6, s7, s8, s9, s10, s11⟩
                    go_simp
                    with_reducible rfl
                  rotate_left
                  · simp only [Act.put, List.setIfInBounds_toArray, List.set_cons_zero, List.set_cons_succ, i64_w, i32_w]
                    rfl
                  refine pure_ (i := 14) (N := some 74) (v := ?_) (a' := ?_) #[true, true, true, true, true, true, true, true, true, true, true, true, true, true, true, false, false, false] rfl rfl (by kernel_rfl) (fun _ _ _ h => h) (Or.inl ⟨by rfl, ?_⟩) ?_ ?_
                  rotate_left
                  · intro w'
                    go_simp
                    with_reducible rfl
                  rotate_left
                  · simp only [Act.put, List.setIfInBounds_toArray, List.set_cons_zero, List.set_cons_succ, i64_w, i32_w]
                    rfl
                  refine take_ (i := 15) (N := some 75) (v := ?_) (a' := ?_) #[true, true, true, true, true, true, true, true, true, true, true, true, true, true, true, true, false, false] rfl rfl (by kernel_rfl) (fun _ _ _ h => h) (Or.inl ⟨by rfl, ?_⟩) hHeld ?_ ?_
                  rotate_left
                  · rintro w' ⟨s0, s1, s2, s3, s4, s5, s6, s7, s8, s9, s10, s11⟩
                    go_simp
                    with_reducible rfl
                  rotate_left
                  · simp only [Act.put, List.setIfInBounds_toArray, List.set_cons_zero, List.set_cons_succ, i64_w, i32_w]
                    rfl
                  refine one_ (i := 16) (N := some 76) #[true, true, true, true, true, true, true, true, true, true, true, true, true, true, true, true, true, false] rfl rfl (by kernel_rfl) (by decide) (fun K hK => ?_)
                  refine goes_ Try.func61 (by kernel_rfl) rfl #[.agg #[.int .i64 u.op, .int .i64 u.port, .int .u64 u.addr, .slice D u.data.length cD], .agg #[.int .i64 v.op, .int .i64 v.port, .int .u64 v.addr, .slice E v.data.length cE]] (by rfl) rfl rfl (by simp only [List.map_toArray, List.map_cons, List.map_nil]; rfl) ?_
                  with_reducible refine (HRS.out _ HX.out.drew.bel).mono ?_
                  rintro e w3 ⟨rfl, hbw⟩
                  refine ⟨_, rfl, ?_⟩
                  have HX3 := Aside0.mk (HX.out.drew.to hbw)
                  clear hbw
                  refine hK.out _ _ ⟨HX3.out.a6, HX3.out.b6, pw_cell_below HX3.out.bel HG.out.1, pw_cell_below HX3.out.bel HG.out.2, pw_cell_below HX3.out.bel HUV.out.1, pw_cell_below HX3.out.bel HUV.out.2.1, pw_cell_below HX3.out.bel HUV.out.2.2.1, pw_cell_below HX3.out.bel HUV.out.2.2.2.1, pw_cell_below HX3.out.bel HUV.out.2.2.2.2.1, pw_cell_below HX3.out.bel HUV.out.2.2.2.2.2.1, pw_cell_below HX3.out.bel HUV.out.2.2.2.2.2.2.1, pw_cell_below HX3.out.bel HUV.out.2.2.2.2.2.2.2⟩ (fun hHeld => ?_)
                  clear hK K
                  refine norm_ (a' := ?_) ?_ ?_
                  rotate_left
                  · show Act.put _ (some 76) _ = _
                    simp only [Act.put, List.setIfInBounds_toArray, List.set_cons_zero, List.set_cons_succ, i64_w, i32_w]
                    rfl
                  refine pure_ (i := 17) (N := some 77) (v := ?_) (a' := ?_) #[true, true, true, true, true, true, true, true, true, true, true, true, true, true, true, true, true, true] rfl rfl (by kernel_rfl) (fun _ _ _ h => h) (Or.inl ⟨by rfl, ?_⟩) ?_ ?_
                  rotate_left
                  · intro w'
                    go_simp
                    with_reducible rfl
                  rotate_left
                  · simp only [Act.put, List.setIfInBounds_toArray, List.set_cons_zero, List.set_cons_succ, i64_w, i32_w]
                    rfl
                  refine done_ (by kernel_rfl) ?_
                  clear ha6 hb6 hg1 hg2
                  go_wp2
                  go_ret
                  exact ⟨by rw [HF.out]; rfl, HX3.out.bel⟩
              · obtain rfl : y = (p : Int) := by omega
                have hdy : decide ((p : Int) < (p : Int)) = false := decide_eq_false (by omega)
                have HY := Aside0.mk (HSN.out (take_all_of HPQ.out.1 HPQ.out.2 HTy.out))
                clear HTy hlty hy0 hy1
                go_wp2
                go_roundw
                case rel => exact ⟨x + 1, by omega, by omega, by go_num, HY, HX⟩
                case measure => simp [intOf]; omega
          · have q0 : ((p : Int) != (q : Int)) = true := by simp; omega
            have HF : Aside0 (r = false) := ⟨HNE.out (fun e => gl (by rw [← HPQ.out.1, ← HPQ.out.2, e]))⟩
            clear gl
            go_wp2_with fail
            go_quiet (fail)
            have HX2 := Aside0.mk (HX.out.drewN nq)
            go_wp2
            go_ret
            exact ⟨by rw [HF.out]; rfl, HX2.out.bel⟩
        · obtain rfl : x = (n4 : Int) := by omega
          have hd : decide ((n4 : Int) < (n4 : Int)) = false := decide_eq_false (by omega)
          have HF : Aside0 (r = true) := ⟨HRF.out.2.2.2 HT3.out.1 HT3.out.2 (take_all_of HN.out.1 HN.out.2 HT.out)⟩
          clear HT hx0 hx1 hlt
          go_wp2
          go_ret
          exact ⟨by rw [HF.out]; rfl, HX.out.bel⟩
end Go.Proofs.Ytbpmmabdjabfcaa.Script
