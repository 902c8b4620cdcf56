import Derived.Test.YtndmdlnmjamgkaaCoreClock
/- Package portholelaw15: clock, and what each of CoreFair, CoreEnters does first. Written by wip/corefair.py. -/
namespace Go.Proofs.Ytndmdlnmjamgkaa.Core
open Go.RowKit Go.Proofs.YtndmdlnmjamgkaaW.PrintWords Go.Proofs.YtndmdlnmjamgkaaW.PrintLast Go.Proofs.YtndmdlnmjamgkaaW.PrintMore Go.Proofs.Ytndmdlnmjamgkaa.PF Go.Proofs.Ytndmdlnmjamgkaa.Frame Go.Proofs.Ytndmdlnmjamgkaa.Box
set_option linter.unusedSimpArgs false
set_option linter.unusedVariables false
set_option maxRecDepth 20000 in
set_option maxHeartbeats 16000000 in
theorem CoreFair_go {w : World} {f : Fr} {ps : List S69} {xs : List S87} {cs : Array Value} (h : IsCfg w f ps xs cs) (n : Int) (hn : 0 ≤ n ∧ n ≤ 255) :
    Calls Try.prog 13 #[.agg cs, .int .u8 n] w fun e w' => e = .returned (.bool true) ∧ Below w.heap.size w w' := by
  have HI := Aside0.mk h.fr
  obtain ⟨Ap, cp, Ax, cx, A2, c2, A3, c3, rfl, ⟨hl2, hl3⟩, hp, hx, h2, h3⟩ := h
  have HCK := Aside0.mk (fun (X : World) (hX : Below w.heap.size w X) (q2 : f.ws0.length ≤ 1000000) (q3 : f.ws1.length ≤ 1000000) => clock_calls X Ap ps.length cp Ax xs.length cx f A2 c2 A3 c3 hl2 hl3 (Kd.C_below h2 hX) (Kd.C_below h3 hX) q2 q3 n ⟨hn.1, Int.le_trans hn.2 (by decide)⟩)
  have HA := Aside0.mk (fun (X : World) (hX : Below w.heap.size w X) (q0 : ps.length ≤ 1000000) (q1 : xs.length ≤ 1000000) (q2 : f.ws0.length ≤ 1000000) (q3 : f.ws1.length ≤ 1000000) => accepts_calls X Ap ps.length cp Ax xs.length cx f.l0 A2 f.ws0.length c2 f.l1 A3 f.ws1.length c3 ps xs f.ws0 f.ws1 ⟨Kd.C_below hp hX, Kd.C_below hx hX, Kd.C_below h2 hX, Kd.C_below h3 hX, q0, q1, q2, q3⟩)
  have HGR := Aside0.mk (fun (X : World) => great_calls X Ap ps.length cp Ax xs.length cx f.l0 A2 f.ws0.length c2 f.l1 A3 f.ws1.length c3)
  have HW2 := Aside0.mk (fun (X : World) (hX : Below w.heap.size w X) => Kd.C_below h2 hX)
  have HW3 := Aside0.mk (fun (X : World) (hX : Below w.heap.size w X) => Kd.C_below h3 hX)
  have HPS := Aside0.mk (fun (X : World) (hX : Below w.heap.size w X) => Kd.C_below hp hX)
  have HB0 : Aside0 (BB w (w.alloc (.cells #[.slice Ap ps.length cp, .slice Ax xs.length cx, .int .i64 f.l0, .slice A2 f.ws0.length c2, .int .i64 f.l1, .slice A3 f.ws1.length c3] 61)) #[.slice Ap ps.length cp, .slice Ax xs.length cx, .int .i64 f.l0, .slice A2 f.ws0.length c2, .int .i64 f.l1, .slice A3 f.ws1.length c3]) := ⟨⟨blk_new w _, below_alloc (Below.refl _ w) _⟩⟩
  clear hl2 hl3 h2 h3 hp hx HI
  obtain ⟨np, hnp⟩ : ∃ n, ps.length = n := ⟨_, rfl⟩
  obtain ⟨nx, hnx⟩ : ∃ n, xs.length = n := ⟨_, rfl⟩
  obtain ⟨n2, hn2⟩ : ∃ n, f.ws0.length = n := ⟨_, rfl⟩
  obtain ⟨n3, hn3⟩ : ∃ n, f.ws1.length = n := ⟨_, rfl⟩
  obtain ⟨l0, hl0⟩ : ∃ n, f.l0 = n := ⟨_, rfl⟩
  obtain ⟨l1, hl1⟩ : ∃ n, f.l1 = n := ⟨_, rfl⟩
  rw [hnp, hnx, hn2, hn3, hl0, hl1] at HCK HA HGR HB0 ⊢
  rw [hnp] at HPS
  rw [hn2] at HW2
  rw [hn3] at HW3
  have HE := Aside0.mk (And.intro hn2 (And.intro hn3 (And.intro hl0 hl1)))
  clear hnp hnx hn2 hn3 hl0 hl1
  have hgr : (decide (100 < np) || (decide (100 < nx) || (decide (100 < n2) || decide (100 < n3)))) = false → np ≤ 1000000 ∧ nx ≤ 1000000 ∧ n2 ≤ 1000000 ∧ n3 ≤ 1000000 := fun h => by
    simp only [Bool.or_eq_false_iff, decide_eq_false_iff_not] at h
    omega
  have HGN := Aside0.mk hgr
  clear hgr
  generalize (decide (100 < np) || (decide (100 < nx) || (decide (100 < n2) || decide (100 < n3)))) = gb at *
  have HN := Aside0.mk hn
  obtain ⟨hn0, hn1⟩ := hn
  have hcv : IntKind.i64.wrap n = n := by rw [i64_w]; unfold wrap64; omega
  have HCV := Aside0.mk hcv
  clear hcv hn0 hn1
  go_enter Try.func13, Try.ntmps13
  go_wp2_with fail
  refine (wakes_calls _).mono ?_
  rintro e w2 ⟨rfl, hb⟩
  have HB2 := Aside0.mk (HB0.out.to hb)
  clear hb HB0
  have ha0 := (blk_cell HB2.out.blk 0).trans rfl
  have ha1 := (blk_cell HB2.out.blk 1).trans rfl
  have ha2 := (blk_cell HB2.out.blk 2).trans rfl
  have ha3 := (blk_cell HB2.out.blk 3).trans rfl
  have ha4 := (blk_cell HB2.out.blk 4).trans rfl
  have ha5 := (blk_cell HB2.out.blk 5).trans rfl
  go_wp2_with fail
  refine (HGR.out _).mono ?_
  rintro e w3 ⟨rfl, hb⟩
  have HB3 := Aside0.mk (HB2.out.to hb)
  clear hb HB2 HGR ha0 ha1 ha2 ha3 ha4 ha5
  have ha0 := (blk_cell HB3.out.blk 0).trans rfl
  have ha1 := (blk_cell HB3.out.blk 1).trans rfl
  have ha2 := (blk_cell HB3.out.blk 2).trans rfl
  have ha3 := (blk_cell HB3.out.blk 3).trans rfl
  have ha4 := (blk_cell HB3.out.blk 4).trans rfl
  have ha5 := (blk_cell HB3.out.blk 5).trans rfl
  cases gb with
  | true =>
    go_wp2
    go_ret
    exact ⟨rfl, HB3.out.bel⟩
  | false =>
    have HS := Aside0.mk (HGN.out rfl)
    clear HGN
    go_wp2_with fail
    refine (HA.out _ HB3.out.bel HS.out.1 HS.out.2.1 HS.out.2.2.1 HS.out.2.2.2).mono ?_
    rintro e w4 ⟨⟨b, rfl, hacc⟩, hb⟩
    have HB4 := Aside0.mk (HB3.out.to hb)
    have HAC := Aside0.mk hacc
    clear hb hacc HB3 HA ha0 ha1 ha2 ha3 ha4 ha5
    cases b with
    | false =>
      go_wp2
      go_ret
      exact ⟨rfl, HB4.out.bel⟩
    | true =>
      have HACC := Aside0.mk (HAC.out rfl)
      clear HAC
      have HNP : Aside0 (np ≤ 6) := ⟨HACC.out.parts.2⟩
      obtain ⟨Z, hZ⟩ : ∃ Z, ((hadL np (fun _ => 0)).map (Value.int .i64)).toArray = Z := ⟨_, rfl⟩
      have HZ := Aside0.mk hZ
      clear hZ
      go_wp2_with fail
      go_loopw [23] (fun v wr => ∃ k : Nat, k ≤ 2 ∧ v = .int .i64 (k : Int) ∧ Aside0 (BB w wr #[.slice Ap np cp, .slice Ax nx cx, .int .i64 l0, .slice A2 n2 c2, .int .i64 l1, .slice A3 n3 c3])) (fun v _ => 2 - (intOf v).toNat)
      case atStart => exact ⟨0, by omega, rfl, HB4⟩
      case round =>
        clear HB4
        obtain ⟨k, hk, rfl, HB⟩ := hrel
        have ha0 := (blk_cell HB.out.blk 0).trans rfl
        have ha1 := (blk_cell HB.out.blk 1).trans rfl
        have ha2 := (blk_cell HB.out.blk 2).trans rfl
        have ha3 := (blk_cell HB.out.blk 3).trans rfl
        have ha4 := (blk_cell HB.out.blk 4).trans rfl
        have ha5 := (blk_cell HB.out.blk 5).trans rfl
        match k, hk with
        | 0, _ =>
          have hcore : (0 : Int) = 0 := rfl
          have HR : Aside0 (right l0 f.ws0 = true) := ⟨by have a := HACC.out; have e := HE.out.1; exact right_all a.lens.1 (by rw [e]; exact a.wins.1) (by rw [e]; exact a.fits.1) (by rw [e]; exact a.apart.1)⟩
          have HM : Aside0 (allTo (W14 ps np f.ws0 0) f.ws0.length) := ⟨by rw [HE.out.1]; exact HACC.out.mine.1⟩
          have HL : Aside0 (0 ≤ l0 ∧ l0 ≤ 64) := ⟨by have h : 1 ≤ l0 ∧ l0 ≤ 64 := HACC.out.lens.1; omega⟩
          have hcv := HCV.out
          go_wp2_with fail
          clear hcv
          refine (HCK.out _ HB.out.bel HS.out.2.2.1 HS.out.2.2.2).mono ?_
          rintro e w5 ⟨⟨g, rfl, hgl, hck⟩⟩
          have HB5 := Aside0.mk (HB.out.to hck.bel)
          have HBW := Aside0.mk HB.out.bel
          have HSZ := Aside0.mk HB.out.bel.size
          have HC5 := Aside0.mk hck
          have HGW : Aside0 (w.heap.size ≠ g) := ⟨by have := HSZ.out; omega⟩
          have hgl5 := hck.lt
          clear hck HB ha0 ha1 ha2 ha3 ha4 ha5
          have ha0 := (blk_cell HB5.out.blk 0).trans rfl
          have ha1 := (blk_cell HB5.out.blk 1).trans rfl
          have ha2 := (blk_cell HB5.out.blk 2).trans rfl
          have ha3 := (blk_cell HB5.out.blk 3).trans rfl
          have ha4 := (blk_cell HB5.out.blk 4).trans rfl
          have ha5 := (blk_cell HB5.out.blk 5).trans rfl
          have HMK : ∀ W : World, (Instr.makeSlice 32 (.int .i64 (np : Int)) (.int .i64 (np : Int))).run Try.prog W = .ok (.slice (some ⟨W.heap.size, 0, none⟩) np np) (W.alloc (.cells Z 3)) := by
            rw [← HZ.out]; exact make_ints np HNP.out
          have HC6 := Aside0.mk (HC5.out.other (.cells Z 3))
          have hb6 := below_alloc (Below.refl _ w5) (.cells Z 3)
          have HB6 := Aside0.mk (HB5.out.to hb6)
          have HR6 : Aside0 (Row (w5.alloc (.cells Z 3)) w5.heap.size (hadL np (fun _ => 0))) := ⟨⟨by rw [HZ.out]; exact blk_new w5 _⟩⟩
          have HGH : Aside0 (g ≠ w5.heap.size) := ⟨Nat.ne_of_lt hgl5⟩
          have HWH2 : Aside0 (w.heap.size < w5.heap.size) := ⟨by have := HSZ.out; omega⟩
          have HWR : Aside0 (wr.heap.size ≤ w5.heap.size) := ⟨HC5.out.bel.size⟩
          clear hb6 hgl5 HC5 HB5 hgl
          have hb0 := (blk_cell HB6.out.blk 0).trans rfl
          have hb1 := (blk_cell HB6.out.blk 1).trans rfl
          have hb2 := (blk_cell HB6.out.blk 2).trans rfl
          have hb3 := (blk_cell HB6.out.blk 3).trans rfl
          have hb4 := (blk_cell HB6.out.blk 4).trans rfl
          have hb5 := (blk_cell HB6.out.blk 5).trans rfl
          go_wp2_with fail
          clear HMK ha0 ha1 ha2 ha3 ha4 ha5 hb0 hb1 hb2 hb3 hb4 hb5
          generalize w5.heap.size = h at *
          go_loopw [41] (fun v wx => ∃ (x : Int) (i : Nat), 0 ≤ x ∧ x ≤ l0 ∧ v = .int .i64 x ∧ Aside0 (x = (i : Int)) ∧ Aside0 (IsCk wr wx g f (n + x) h) ∧ Aside0 (BB w wx #[.slice Ap np cp, .slice Ax nx cx, .int .i64 l0, .slice A2 n2 c2, .int .i64 l1, .slice A3 n3 c3]) ∧ Aside0 (Row wx h (hadL np (hadT l0 f.ws0 n i)))) (fun v _ => (l0 - intOf v).toNat)
          case atStart => exact ⟨0, 0, Int.le_refl _, HL.out.1, rfl, ⟨rfl⟩, ⟨by rw [Int.add_zero]; exact HC6.out⟩, HB6, ⟨row_zero HR6.out⟩⟩
          case round =>
            clear HC6 HB6 HR6
            obtain ⟨x, i, hx0, hi, rfl, HX, HC, HB, HH⟩ := hrel
            by_cases hlt : x < l0
            · have hd : decide (x < l0) = true := decide_eq_true hlt
              obtain ⟨r, hr⟩ : ∃ r, whoV f (n + x) 0 = r := ⟨_, rfl⟩
              obtain ⟨q, ok⟩ := r
              have HRR : Aside0 (At l0 f.ws0 (n + x) = (q, ok)) := ⟨by rw [← HE.out.2.2.1]; exact (who0 f _).symm.trans hr⟩
              have HQ : Aside0 (ok = true → 0 ≤ q ∧ q < np) := ⟨fun h => by
                have h1 := At_part HM.out (L := l0) (t := n + x) (by rw [HRR.out]; exact h)
                rw [HRR.out] at h1
                exact ⟨h1.1, h1.2.1⟩⟩
              have HWHO := Aside0.mk (whoc_calls HC.out 0 hr)
              clear hr
              go_wp2_with fail
              refine HWHO.out.mono ?_
              rintro e w8 ⟨rfl, hck, hb⟩
              have HC8 := Aside0.mk hck
              have HB8 := Aside0.mk (HB.out.to hb)
              have HH8 := Aside0.mk (HH.out.to hb)
              clear hck hb HC HB HH HWHO
              cases ok with
              | false =>
                have HH9 := Aside0.mk (row_none (HX.out ▸ HRR.out) HH8.out)
                clear HQ HRR HH8
                go_wp2_with fail
                refine (tick_calls HC8.out (now_ok HN.out hx0 hi HL.out)).mono ?_
                rintro e wt ⟨Ao, no, co, rfl, ho, hck, hkb, hbw⟩
                have HBt := Aside0.mk (HB8.out.keep hkb (HBW.out.trans (hbw.mono HSZ.out)) HGW.out)
                have HHt := Aside0.mk (HH9.out.keep hkb (Ne.symm HGH.out))
                have HCt := Aside0.mk hck
                clear ho hck hkb hbw HC8 HB8 HH9
                have hw1 := wrap_n hx0 hi (Int.le_trans HL.out.2 (by decide))
                go_wp2
                go_roundw
                case rel => exact ⟨x + 1, i + 1, by omega, Int.add_one_le_of_lt hlt, by go_num, ⟨by rw [HX.out]; rfl⟩, ⟨by rw [← Int.add_assoc]; exact HCt.out⟩, HBt, HHt⟩
                case measure => simp [intOf]; omega
              | true =>
                obtain ⟨hq0, hq1⟩ := HQ.out rfl
                obtain ⟨qn, rfl⟩ := nat_of hq0
                obtain ⟨v, hv⟩ : ∃ v, hadT l0 f.ws0 n i (qn : Int) = v := ⟨_, rfl⟩
                have hvb := hadT_le l0 f.ws0 n i (qn : Int)
                rw [hv] at hvb
                have hcell := HH8.out.cell (i := qn) (v := v) (by rw [hadL_get _ _ _ (by omega)]; exact congrArg some hv)
                have hfz := HH8.out.frz qn
                have hq2 : decide ((qn : Int) < 0) = false := decide_eq_false (by omega)
                have hq3 : decide ((np : Int) ≤ (qn : Int)) = false := decide_eq_false (by omega)
                have hq4 : decide ((qn : Int) < (np : Int)) = true := decide_eq_true hq1
                have HC9 := Aside0.mk (HC8.out.far (Nat.le_trans HWR.out (Nat.le_refl _)) HGH.out qn (.int .i64 (v + 1)))
                have HB9 := Aside0.mk (HB8.out.far HWH2.out qn (.int .i64 (v + 1)))
                have HH9 := Aside0.mk (row_more (HX.out ▸ HRR.out) hv HH8.out)
                have hw2 := wrap_add hvb HX.out hi (Int.le_trans HL.out.2 (by decide))
                clear hvb hv HQ HRR HH8 HC8 HB8
                go_wp2_with fail
                clear hcell hfz hw2
                refine (tick_calls HC9.out (now_ok HN.out hx0 hi HL.out)).mono ?_
                rintro e wt ⟨Ao, no, co, rfl, ho, hck, hkb, hbw⟩
                have HBt := Aside0.mk (HB9.out.keep hkb (HBW.out.trans (hbw.mono HSZ.out)) HGW.out)
                have HHt := Aside0.mk (HH9.out.keep hkb (Ne.symm HGH.out))
                have HCt := Aside0.mk hck
                clear ho hck hkb hbw HC9 HB9 HH9
                have hw1 := wrap_n hx0 hi (Int.le_trans HL.out.2 (by decide))
                go_wp2
                go_roundw
                case rel => exact ⟨x + 1, i + 1, by omega, Int.add_one_le_of_lt hlt, by go_num, ⟨by rw [HX.out]; rfl⟩, ⟨by rw [← Int.add_assoc]; exact HCt.out⟩, HBt, HHt⟩
                case measure => simp [intOf]; omega
            · have hd : decide (x < l0) = false := decide_eq_false hlt
              have hil := nat_at HX.out hi hlt
              have HH0 := Aside0.mk (row_turn HR.out ⟨HN.out.1, Int.le_trans HN.out.2 (by decide)⟩ hil HH.out)
              clear HH hil
              have HBW2 := Aside0.mk HB.out.bel
              have ha0 := (blk_cell HB.out.blk 0).trans rfl
              have ha1 := (blk_cell HB.out.blk 1).trans rfl
              have ha2 := (blk_cell HB.out.blk 2).trans rfl
              have ha3 := (blk_cell HB.out.blk 3).trans rfl
              have ha4 := (blk_cell HB.out.blk 4).trans rfl
              have ha5 := (blk_cell HB.out.blk 5).trans rfl
              go_wp2_with fail
              clear ha0 ha1 ha2 ha3 ha4 ha5 HC
              go_loopw [73] (fun v wy => ∃ (x : Int) (j : Nat), 0 ≤ x ∧ x ≤ (n2 : Int) ∧ v = .int .i64 x ∧ Aside0 (x = (j : Int)) ∧ Aside0 (BB w wy #[.slice Ap np cp, .slice Ax nx cx, .int .i64 l0, .slice A2 n2 c2, .int .i64 l1, .slice A3 n3 c3]) ∧ Aside0 (Row wy h (hadL np (hadS f.ws0 j)))) (fun v _ => (n2 - intOf v).toNat)
              case atStart => exact ⟨0, 0, Int.le_refl _, Int.natCast_nonneg _, rfl, ⟨rfl⟩, HB, HH0⟩
              case round =>
                clear HB HH0
                clear HX hx0 hi
                obtain ⟨x, j, hx0, hj, rfl, HX, HB, HH⟩ := hrel
                by_cases hlt : x < (n2 : Int)
                · have hd : decide (x < (n2 : Int)) = true := decide_eq_true hlt
                  obtain ⟨ax, rfl, d0, d1, d2⟩ := at_T46 (HW2.out _ HB.out.bel) x hx0 hlt
                  have hm := HM.out x hx0 (by rw [HE.out.1]; exact hlt)
                  have hjl : j < f.ws0.length := by rw [HE.out.1]; exact nat_lt HX.out hlt
                  obtain ⟨a0, ha0⟩ : ∃ a, (rd_T46 f.ws0 x).f0 = a := ⟨_, rfl⟩
                  obtain ⟨a1, ha1⟩ : ∃ a, (rd_T46 f.ws0 x).f1 = a := ⟨_, rfl⟩
                  obtain ⟨a2, ha2⟩ : ∃ a, (rd_T46 f.ws0 x).f2 = a := ⟨_, rfl⟩
                  unfold W14 at hm
                  rw [ha0] at d0 hm
                  rw [ha1] at d1
                  rw [ha2] at d2
                  obtain ⟨⟨hq0, hq1⟩, _⟩ := hm
                  obtain ⟨qn, rfl⟩ := nat_of hq0
                  obtain ⟨v, hv⟩ : ∃ v, hadS f.ws0 j (qn : Int) = v := ⟨_, rfl⟩
                  have hvb := hadS_le HR.out hjl (qn : Int)
                  rw [hv, ← HX.out, ha2] at hvb
                  have hq3 : decide ((qn : Int) < (np : Int)) = true := decide_eq_true hq1
                  have hbk := below_alloc (Below.refl _ wr) (.cells #[.int .i64 (qn : Int), .int .i64 a1, .int .i64 a2] 46)
                  have HB1 := Aside0.mk (HB.out.to hbk)
                  have HH1 := Aside0.mk (HH.out.to hbk)
                  have HK1 : Aside0 ((wr.alloc (.cells #[.int .i64 (qn : Int), .int .i64 a1, .int .i64 a2] 46)).heap[wr.heap.size]? = some (.cells #[.int .i64 (qn : Int), .int .i64 a1, .int .i64 a2] 46 (0, 0))) := ⟨blk_new wr _⟩
                  have hrw := HH1.out.to (below_drew1 (Below.refl _ _))
                  have hcS := hrw.cell (i := qn) (v := v) (by rw [hadL_get _ _ _ (by omega)]; exact congrArg some hv)
                  have hfS := hrw.frz qn
                  have HB9 := Aside0.mk ((HB1.out.to (below_drew1 (Below.refl _ _))).far HWH2.out qn (.int .i64 (v - a2)))
                  have HH9 := Aside0.mk (row_less hjl (HX.out ▸ ha0) (HX.out ▸ ha2) hv hrw)
                  clear hrw hv hjl ha0 ha1 ha2 HH1 HB1 hbk HB HH
                  have hw2 := wrap_sub hvb
                  clear hvb
                  go_upto_region 24 with fail
                  refine start_ (n := 10) (S := fun w' => w'.cell? ⟨wr.heap.size, 0, none⟩ = some (.int .i64 (qn : Int)) ∧ w'.cell? ⟨wr.heap.size, 2, none⟩ = some (.int .i64 a2) ∧ w'.cell? ⟨h, qn, none⟩ = some (.int .i64 v)) (ds := [9]) #[false, false, false, false, false, false, false, false, false, false] (by kernel_rfl) rfl rfl ⟨(blk_cell (blk_below HK1.out (below_drew1 (Below.refl _ _))) 0).trans rfl, (blk_cell (blk_below HK1.out (below_drew1 (Below.refl _ _))) 2).trans rfl, hcS⟩ (fun hHeld => ?_)
                  refine pure_ (i := 0) (N := some 77) (v := ?_) (a' := ?_) #[true, false, false, false, false, false, false, false, false, false] rfl rfl (by kernel_rfl) (fun _ _ _ h => h) (Or.inl ⟨by rfl, ?_⟩) ?_ ?_
                  rotate_left
                  · intro w'
                    go_simp
                    with_reducible rfl
                  rotate_left
                  · simp only [Act.put, List.setIfInBounds_toArray, List.set_cons_zero, List.set_cons_succ, i64_w, i32_w]
                    rfl
                  refine pure_ (i := 1) (N := some 78) (v := ?_) (a' := ?_) #[true, true, false, false, false, false, false, false, false, false] rfl rfl (by kernel_rfl) (fun _ _ _ h => h) (Or.inl ⟨by rfl, ?_⟩) ?_ ?_
                  rotate_left
                  · intro w'
                    go_simp
                    with_reducible rfl
                  rotate_left
                  · simp only [Act.put, List.setIfInBounds_toArray, List.set_cons_zero, List.set_cons_succ, i64_w, i32_w]
                    rfl
                  refine pure_ (i := 5) (N := some 82) (v := ?_) (a' := ?_) #[true, true, false, false, false, true, false, false, false, false] rfl rfl (by kernel_rfl) (fun _ _ _ h => h) (Or.inl ⟨by rfl, ?_⟩) ?_ ?_
                  rotate_left
                  · intro w'
                    go_simp
                    with_reducible rfl
                  rotate_left
                  · simp only [Act.put, List.setIfInBounds_toArray, List.set_cons_zero, List.set_cons_succ, i64_w, i32_w]
                    rfl
                  refine take_ (i := 2) (N := some 79) (v := ?_) (a' := ?_) #[true, true, true, false, false, true, false, false, false, false] rfl rfl (by kernel_rfl) (fun _ _ _ h => h) (Or.inl ⟨by rfl, ?_⟩) hHeld ?_ ?_
                  rotate_left
                  · rintro w' ⟨s0, s1, s2⟩
                    go_simp
                    with_reducible rfl
                  rotate_left
                  · simp only [Act.put, List.setIfInBounds_toArray, List.set_cons_zero, List.set_cons_succ, i64_w, i32_w]
                    rfl
                  refine pure_ (i := 3) (N := some 80) (v := ?_) (a' := ?_) #[true, true, true, true, false, true, false, false, false, false] rfl rfl (by kernel_rfl) (fun _ _ _ h => h) (Or.inl ⟨by rfl, ?_⟩) ?_ ?_
                  rotate_left
                  · intro w'
                    go_simp
                    with_reducible rfl
                  rotate_left
                  · simp only [Act.put, List.setIfInBounds_toArray, List.set_cons_zero, List.set_cons_succ, i64_w, i32_w]
                    rfl
                  refine take_ (i := 4) (N := some 81) (v := ?_) (a' := ?_) #[true, true, true, true, true, true, false, false, false, false] rfl rfl (by kernel_rfl) (fun _ _ _ h => h) (Or.inl ⟨by rfl, ?_⟩) hHeld ?_ ?_
                  rotate_left
                  · rintro w' ⟨s0, s1, s2⟩
                    go_simp
                    with_reducible rfl
                  rotate_left
                  · simp only [Act.put, List.setIfInBounds_toArray, List.set_cons_zero, List.set_cons_succ, i64_w, i32_w]
                    rfl
                  refine take_ (i := 6) (N := some 83) (v := ?_) (a' := ?_) #[true, true, true, true, true, true, true, false, false, false] rfl rfl (by kernel_rfl) (fun _ _ _ h => h) (Or.inl ⟨by rfl, ?_⟩) hHeld ?_ ?_
                  rotate_left
                  · rintro w' ⟨s0, s1, s2⟩
                    go_simp
                    with_reducible rfl
                  rotate_left
                  · simp only [Act.put, List.setIfInBounds_toArray, List.set_cons_zero, List.set_cons_succ, i64_w, i32_w]
                    rfl
                  refine pure_ (i := 7) (N := some 84) (v := ?_) (a' := ?_) #[true, true, true, true, true, true, true, true, false, false] rfl rfl (by kernel_rfl) (fun _ _ _ h => h) (Or.inl ⟨by rfl, ?_⟩) ?_ ?_
                  rotate_left
                  · intro w'
                    go_simp
                    with_reducible rfl
                  rotate_left
                  · simp only [Act.put, List.setIfInBounds_toArray, List.set_cons_zero, List.set_cons_succ, i64_w, i32_w]
                    rfl
                  refine pure_ (i := 8) (N := some 85) (v := ?_) (a' := ?_) #[true, true, true, true, true, true, true, true, true, false] rfl rfl (by kernel_rfl) (fun _ _ _ h => h) (Or.inl ⟨by rfl, ?_⟩) ?_ ?_
                  rotate_left
                  · intro w'
                    go_simp
                    with_reducible rfl
                  rotate_left
                  · simp only [Act.put, List.setIfInBounds_toArray, List.set_cons_zero, List.set_cons_succ, i64_w, i32_w]
                    rfl
                  refine last_ (i := 9) (N := none) #[true, true, true, true, true, true, true, true, true, true] rfl rfl (by kernel_rfl) (by decide) (fun K hK => ?_)
                  have hcT := hcS
                  refine skip_ (w1 := ?_) (by rfl) rfl ?_ ?_
                  rotate_left
                  · go_simp
                    rfl
                  refine hK.out _ _ ?_
                  clear hK K
                  refine done_ (by kernel_rfl) ?_
                  clear hcS hfS d0 d1 d2 HK1
                  have hw1 := wrap_n hx0 hj (Int.ofNat_le.mpr HS.out.2.2.1)
                  go_wp2
                  clear hw2
                  go_roundw
                  case rel => exact ⟨x + 1, j + 1, by omega, Int.add_one_le_of_lt hlt, by go_num, ⟨by rw [HX.out]; rfl⟩, HB9, HH9⟩
                  case measure => simp [intOf]; omega
                · have hd : decide (x < (n2 : Int)) = false := decide_eq_false hlt
                  have HH0 := Aside0.mk (row_end (by rw [HE.out.1]; exact nat_ge HX.out hlt) HH.out)
                  clear HH
                  go_wp2_with fail
                  go_loopw [89] (fun v wz => ∃ (x : Int) (k : Nat), 0 ≤ x ∧ x ≤ (np : Int) ∧ v = .int .i64 x ∧ Aside0 (x = (k : Int)) ∧ Aside0 (BB w wz #[.slice Ap np cp, .slice Ax nx cx, .int .i64 l0, .slice A2 n2 c2, .int .i64 l1, .slice A3 n3 c3]) ∧ Aside0 (Row wz h (hadL np (fun _ => 0)))) (fun v _ => (np - intOf v).toNat)
                  case atStart => exact ⟨0, 0, Int.le_refl _, Int.natCast_nonneg _, rfl, ⟨rfl⟩, HB, HH0⟩
                  case round =>
                    clear HB HH0
                    clear HX hx0 hj hlt
                    obtain ⟨x, k2, hx0, hk2, rfl, HX, HB, HH⟩ := hrel
                    by_cases hlt2 : x < (np : Int)
                    · have hd2 : decide (x < (np : Int)) = true := decide_eq_true hlt2
                      have hcell : wr.cell? ⟨h, x.toNat, none⟩ = some (.int .i64 0) := by rw [HX.out]; exact HH.out.cell (i := k2) (v := 0) (by rw [hadL_get _ _ _ (nat_lt HX.out hlt2)])
                      have hw1 := wrap_n hx0 hk2 (Int.ofNat_le.mpr HS.out.1)
                      go_wp2
                      go_roundw
                      case rel => exact ⟨x + 1, k2 + 1, by omega, Int.add_one_le_of_lt hlt2, by go_num, ⟨by rw [HX.out]; rfl⟩, HB, HH⟩
                      case measure => simp [intOf]; omega
                    · have hd2 : decide (x < (np : Int)) = false := decide_eq_false hlt2
                      clear HH
                      go_wp2
                      go_roundw
                      case rel => exact ⟨1, by omega, by go_num, HB⟩
                      case measure => simp [intOf]
        | 1, _ =>
          have hcore : (1 : Int) = 1 := rfl
          have HR : Aside0 (right l1 f.ws1 = true) := ⟨by have a := HACC.out; have e := HE.out.2.1; exact right_all a.lens.2 (by rw [e]; exact a.wins.2) (by rw [e]; exact a.fits.2) (by rw [e]; exact a.apart.2)⟩
          have HM : Aside0 (allTo (W14 ps np f.ws1 1) f.ws1.length) := ⟨by rw [HE.out.2.1]; exact HACC.out.mine.2⟩
          have HL : Aside0 (0 ≤ l1 ∧ l1 ≤ 64) := ⟨by have h : 1 ≤ l1 ∧ l1 ≤ 64 := HACC.out.lens.2; omega⟩
          have hcv := HCV.out
          go_wp2_with fail
          clear hcv
          refine (HCK.out _ HB.out.bel HS.out.2.2.1 HS.out.2.2.2).mono ?_
          rintro e w5 ⟨⟨g, rfl, hgl, hck⟩⟩
          have HB5 := Aside0.mk (HB.out.to hck.bel)
          have HBW := Aside0.mk HB.out.bel
          have HSZ := Aside0.mk HB.out.bel.size
          have HC5 := Aside0.mk hck
          have HGW : Aside0 (w.heap.size ≠ g) := ⟨by have := HSZ.out; omega⟩
          have hgl5 := hck.lt
          clear hck HB ha0 ha1 ha2 ha3 ha4 ha5
          have ha0 := (blk_cell HB5.out.blk 0).trans rfl
          have ha1 := (blk_cell HB5.out.blk 1).trans rfl
          have ha2 := (blk_cell HB5.out.blk 2).trans rfl
          have ha3 := (blk_cell HB5.out.blk 3).trans rfl
          have ha4 := (blk_cell HB5.out.blk 4).trans rfl
          have ha5 := (blk_cell HB5.out.blk 5).trans rfl
          have HMK : ∀ W : World, (Instr.makeSlice 32 (.int .i64 (np : Int)) (.int .i64 (np : Int))).run Try.prog W = .ok (.slice (some ⟨W.heap.size, 0, none⟩) np np) (W.alloc (.cells Z 3)) := by
            rw [← HZ.out]; exact make_ints np HNP.out
          have HC6 := Aside0.mk (HC5.out.other (.cells Z 3))
          have hb6 := below_alloc (Below.refl _ w5) (.cells Z 3)
          have HB6 := Aside0.mk (HB5.out.to hb6)
          have HR6 : Aside0 (Row (w5.alloc (.cells Z 3)) w5.heap.size (hadL np (fun _ => 0))) := ⟨⟨by rw [HZ.out]; exact blk_new w5 _⟩⟩
          have HGH : Aside0 (g ≠ w5.heap.size) := ⟨Nat.ne_of_lt hgl5⟩
          have HWH2 : Aside0 (w.heap.size < w5.heap.size) := ⟨by have := HSZ.out; omega⟩
          have HWR : Aside0 (wr.heap.size ≤ w5.heap.size) := ⟨HC5.out.bel.size⟩
          clear hb6 hgl5 HC5 HB5 hgl
          have hb0 := (blk_cell HB6.out.blk 0).trans rfl
          have hb1 := (blk_cell HB6.out.blk 1).trans rfl
          have hb2 := (blk_cell HB6.out.blk 2).trans rfl
          have hb3 := (blk_cell HB6.out.blk 3).trans rfl
          have hb4 := (blk_cell HB6.out.blk 4).trans rfl
          have hb5 := (blk_cell HB6.out.blk 5).trans rfl
          go_wp2_with fail
          clear HMK ha0 ha1 ha2 ha3 ha4 ha5 hb0 hb1 hb2 hb3 hb4 hb5
          generalize w5.heap.size = h at *
          go_loopw [41] (fun v wx => ∃ (x : Int) (i : Nat), 0 ≤ x ∧ x ≤ l1 ∧ v = .int .i64 x ∧ Aside0 (x = (i : Int)) ∧ Aside0 (IsCk wr wx g f (n + x) h) ∧ Aside0 (BB w wx #[.slice Ap np cp, .slice Ax nx cx, .int .i64 l0, .slice A2 n2 c2, .int .i64 l1, .slice A3 n3 c3]) ∧ Aside0 (Row wx h (hadL np (hadT l1 f.ws1 n i)))) (fun v _ => (l1 - intOf v).toNat)
          case atStart => exact ⟨0, 0, Int.le_refl _, HL.out.1, rfl, ⟨rfl⟩, ⟨by rw [Int.add_zero]; exact HC6.out⟩, HB6, ⟨row_zero HR6.out⟩⟩
          case round =>
            clear HC6 HB6 HR6
            obtain ⟨x, i, hx0, hi, rfl, HX, HC, HB, HH⟩ := hrel
            by_cases hlt : x < l1
            · have hd : decide (x < l1) = true := decide_eq_true hlt
              obtain ⟨r, hr⟩ : ∃ r, whoV f (n + x) 1 = r := ⟨_, rfl⟩
              obtain ⟨q, ok⟩ := r
              have HRR : Aside0 (At l1 f.ws1 (n + x) = (q, ok)) := ⟨by rw [← HE.out.2.2.2]; exact (who1 f _).symm.trans hr⟩
              have HQ : Aside0 (ok = true → 0 ≤ q ∧ q < np) := ⟨fun h => by
                have h1 := At_part HM.out (L := l1) (t := n + x) (by rw [HRR.out]; exact h)
                rw [HRR.out] at h1
                exact ⟨h1.1, h1.2.1⟩⟩
              have HWHO := Aside0.mk (whoc_calls HC.out 1 hr)
              clear hr
              go_wp2_with fail
              refine HWHO.out.mono ?_
              rintro e w8 ⟨rfl, hck, hb⟩
              have HC8 := Aside0.mk hck
              have HB8 := Aside0.mk (HB.out.to hb)
              have HH8 := Aside0.mk (HH.out.to hb)
              clear hck hb HC HB HH HWHO
              cases ok with
              | false =>
                have HH9 := Aside0.mk (row_none (HX.out ▸ HRR.out) HH8.out)
                clear HQ HRR HH8
                go_wp2_with fail
                refine (tick_calls HC8.out (now_ok HN.out hx0 hi HL.out)).mono ?_
                rintro e wt ⟨Ao, no, co, rfl, ho, hck, hkb, hbw⟩
                have HBt := Aside0.mk (HB8.out.keep hkb (HBW.out.trans (hbw.mono HSZ.out)) HGW.out)
                have HHt := Aside0.mk (HH9.out.keep hkb (Ne.symm HGH.out))
                have HCt := Aside0.mk hck
                clear ho hck hkb hbw HC8 HB8 HH9
                have hw1 := wrap_n hx0 hi (Int.le_trans HL.out.2 (by decide))
                go_wp2
                go_roundw
                case rel => exact ⟨x + 1, i + 1, by omega, Int.add_one_le_of_lt hlt, by go_num, ⟨by rw [HX.out]; rfl⟩, ⟨by rw [← Int.add_assoc]; exact HCt.out⟩, HBt, HHt⟩
                case measure => simp [intOf]; omega
              | true =>
                obtain ⟨hq0, hq1⟩ := HQ.out rfl
                obtain ⟨qn, rfl⟩ := nat_of hq0
                obtain ⟨v, hv⟩ : ∃ v, hadT l1 f.ws1 n i (qn : Int) = v := ⟨_, rfl⟩
                have hvb := hadT_le l1 f.ws1 n i (qn : Int)
                rw [hv] at hvb
                have hcell := HH8.out.cell (i := qn) (v := v) (by rw [hadL_get _ _ _ (by omega)]; exact congrArg some hv)
                have hfz := HH8.out.frz qn
                have hq2 : decide ((qn : Int) < 0) = false := decide_eq_false (by omega)
                have hq3 : decide ((np : Int) ≤ (qn : Int)) = false := decide_eq_false (by omega)
                have hq4 : decide ((qn : Int) < (np : Int)) = true := decide_eq_true hq1
                have HC9 := Aside0.mk (HC8.out.far (Nat.le_trans HWR.out (Nat.le_refl _)) HGH.out qn (.int .i64 (v + 1)))
                have HB9 := Aside0.mk (HB8.out.far HWH2.out qn (.int .i64 (v + 1)))
                have HH9 := Aside0.mk (row_more (HX.out ▸ HRR.out) hv HH8.out)
                have hw2 := wrap_add hvb HX.out hi (Int.le_trans HL.out.2 (by decide))
                clear hvb hv HQ HRR HH8 HC8 HB8
                go_wp2_with fail
                clear hcell hfz hw2
                refine (tick_calls HC9.out (now_ok HN.out hx0 hi HL.out)).mono ?_
                rintro e wt ⟨Ao, no, co, rfl, ho, hck, hkb, hbw⟩
                have HBt := Aside0.mk (HB9.out.keep hkb (HBW.out.trans (hbw.mono HSZ.out)) HGW.out)
                have HHt := Aside0.mk (HH9.out.keep hkb (Ne.symm HGH.out))
                have HCt := Aside0.mk hck
                clear ho hck hkb hbw HC9 HB9 HH9
                have hw1 := wrap_n hx0 hi (Int.le_trans HL.out.2 (by decide))
                go_wp2
                go_roundw
                case rel => exact ⟨x + 1, i + 1, by omega, Int.add_one_le_of_lt hlt, by go_num, ⟨by rw [HX.out]; rfl⟩, ⟨by rw [← Int.add_assoc]; exact HCt.out⟩, HBt, HHt⟩
                case measure => simp [intOf]; omega
            · have hd : decide (x < l1) = false := decide_eq_false hlt
              have hil := nat_at HX.out hi hlt
              have HH0 := Aside0.mk (row_turn HR.out ⟨HN.out.1, Int.le_trans HN.out.2 (by decide)⟩ hil HH.out)
              clear HH hil
              have HBW2 := Aside0.mk HB.out.bel
              have ha0 := (blk_cell HB.out.blk 0).trans rfl
              have ha1 := (blk_cell HB.out.blk 1).trans rfl
              have ha2 := (blk_cell HB.out.blk 2).trans rfl
              have ha3 := (blk_cell HB.out.blk 3).trans rfl
              have ha4 := (blk_cell HB.out.blk 4).trans rfl
              have ha5 := (blk_cell HB.out.blk 5).trans rfl
              go_wp2_with fail
              clear ha0 ha1 ha2 ha3 ha4 ha5 HC
              go_loopw [73] (fun v wy => ∃ (x : Int) (j : Nat), 0 ≤ x ∧ x ≤ (n3 : Int) ∧ v = .int .i64 x ∧ Aside0 (x = (j : Int)) ∧ Aside0 (BB w wy #[.slice Ap np cp, .slice Ax nx cx, .int .i64 l0, .slice A2 n2 c2, .int .i64 l1, .slice A3 n3 c3]) ∧ Aside0 (Row wy h (hadL np (hadS f.ws1 j)))) (fun v _ => (n3 - intOf v).toNat)
              case atStart => exact ⟨0, 0, Int.le_refl _, Int.natCast_nonneg _, rfl, ⟨rfl⟩, HB, HH0⟩
              case round =>
                clear HB HH0
                clear HX hx0 hi
                obtain ⟨x, j, hx0, hj, rfl, HX, HB, HH⟩ := hrel
                by_cases hlt : x < (n3 : Int)
                · have hd : decide (x < (n3 : Int)) = true := decide_eq_true hlt
                  obtain ⟨ax, rfl, d0, d1, d2⟩ := at_T46 (HW3.out _ HB.out.bel) x hx0 hlt
                  have hm := HM.out x hx0 (by rw [HE.out.2.1]; exact hlt)
                  have hjl : j < f.ws1.length := by rw [HE.out.2.1]; exact nat_lt HX.out hlt
                  obtain ⟨a0, ha0⟩ : ∃ a, (rd_T46 f.ws1 x).f0 = a := ⟨_, rfl⟩
                  obtain ⟨a1, ha1⟩ : ∃ a, (rd_T46 f.ws1 x).f1 = a := ⟨_, rfl⟩
                  obtain ⟨a2, ha2⟩ : ∃ a, (rd_T46 f.ws1 x).f2 = a := ⟨_, rfl⟩
                  unfold W14 at hm
                  rw [ha0] at d0 hm
                  rw [ha1] at d1
                  rw [ha2] at d2
                  obtain ⟨⟨hq0, hq1⟩, _⟩ := hm
                  obtain ⟨qn, rfl⟩ := nat_of hq0
                  obtain ⟨v, hv⟩ : ∃ v, hadS f.ws1 j (qn : Int) = v := ⟨_, rfl⟩
                  have hvb := hadS_le HR.out hjl (qn : Int)
                  rw [hv, ← HX.out, ha2] at hvb
                  have hq3 : decide ((qn : Int) < (np : Int)) = true := decide_eq_true hq1
                  have hbk := below_alloc (Below.refl _ wr) (.cells #[.int .i64 (qn : Int), .int .i64 a1, .int .i64 a2] 46)
                  have HB1 := Aside0.mk (HB.out.to hbk)
                  have HH1 := Aside0.mk (HH.out.to hbk)
                  have HK1 : Aside0 ((wr.alloc (.cells #[.int .i64 (qn : Int), .int .i64 a1, .int .i64 a2] 46)).heap[wr.heap.size]? = some (.cells #[.int .i64 (qn : Int), .int .i64 a1, .int .i64 a2] 46 (0, 0))) := ⟨blk_new wr _⟩
                  have hrw := HH1.out.to (below_drew1 (Below.refl _ _))
                  have hcS := hrw.cell (i := qn) (v := v) (by rw [hadL_get _ _ _ (by omega)]; exact congrArg some hv)
                  have hfS := hrw.frz qn
                  have HB9 := Aside0.mk ((HB1.out.to (below_drew1 (Below.refl _ _))).far HWH2.out qn (.int .i64 (v - a2)))
                  have HH9 := Aside0.mk (row_less hjl (HX.out ▸ ha0) (HX.out ▸ ha2) hv hrw)
                  clear hrw hv hjl ha0 ha1 ha2 HH1 HB1 hbk HB HH
                  have hw2 := wrap_sub hvb
                  clear hvb
                  go_upto_region 24 with fail
                  refine start_ (n := 10) (S := fun w' => w'.cell? ⟨wr.heap.size, 0, none⟩ = some (.int .i64 (qn : Int)) ∧ w'.cell? ⟨wr.heap.size, 2, none⟩ = some (.int .i64 a2) ∧ w'.cell? ⟨h, qn, none⟩ = some (.int .i64 v)) (ds := [9]) #[false, false, false, false, false, false, false, false, false, false] (by kernel_rfl) rfl rfl ⟨(blk_cell (blk_below HK1.out (below_drew1 (Below.refl _ _))) 0).trans rfl, (blk_cell (blk_below HK1.out (below_drew1 (Below.refl _ _))) 2).trans rfl, hcS⟩ (fun hHeld => ?_)
                  refine pure_ (i := 0) (N := some 77) (v := ?_) (a' := ?_) #[true, false, false, false, false, false, false, false, false, false] rfl rfl (by kernel_rfl) (fun _ _ _ h => h) (Or.inl ⟨by rfl, ?_⟩) ?_ ?_
                  rotate_left
                  · intro w'
                    go_simp
                    with_reducible rfl
                  rotate_left
                  · simp only [Act.put, List.setIfInBounds_toArray, List.set_cons_zero, List.set_cons_succ, i64_w, i32_w]
                    rfl
                  refine pure_ (i := 1) (N := some 78) (v := ?_) (a' := ?_) #[true, true, false, false, false, false, false, false, false, false] rfl rfl (by kernel_rfl) (fun _ _ _ h => h) (Or.inl ⟨by rfl, ?_⟩) ?_ ?_
                  rotate_left
                  · intro w'
                    go_simp
                    with_reducible rfl
                  rotate_left
                  · simp only [Act.put, List.setIfInBounds_toArray, List.set_cons_zero, List.set_cons_succ, i64_w, i32_w]
                    rfl
                  refine pure_ (i := 5) (N := some 82) (v := ?_) (a' := ?_) #[true, true, false, false, false, true, false, false, false, false] rfl rfl (by kernel_rfl) (fun _ _ _ h => h) (Or.inl ⟨by rfl, ?_⟩) ?_ ?_
                  rotate_left
                  · intro w'
                    go_simp
                    with_reducible rfl
                  rotate_left
                  · simp only [Act.put, List.setIfInBounds_toArray, List.set_cons_zero, List.set_cons_succ, i64_w, i32_w]
                    rfl
                  refine take_ (i := 2) (N := some 79) (v := ?_) (a' := ?_) #[true, true, true, false, false, true, false, false, false, false] rfl rfl (by kernel_rfl) (fun _ _ _ h => h) (Or.inl ⟨by rfl, ?_⟩) hHeld ?_ ?_
                  rotate_left
                  · rintro w' ⟨s0, s1, s2⟩
                    go_simp
                    with_reducible rfl
                  rotate_left
                  · simp only [Act.put, List.setIfInBounds_toArray, List.set_cons_zero, List.set_cons_succ, i64_w, i32_w]
                    rfl
                  refine pure_ (i := 3) (N := some 80) (v := ?_) (a' := ?_) #[true, true, true, true, false, true, false, false, false, false] rfl rfl (by kernel_rfl) (fun _ _ _ h => h) (Or.inl ⟨by rfl, ?_⟩) ?_ ?_
                  rotate_left
                  · intro w'
                    go_simp
                    with_reducible rfl
                  rotate_left
                  · simp only [Act.put, List.setIfInBounds_toArray, List.set_cons_zero, List.set_cons_succ, i64_w, i32_w]
                    rfl
                  refine take_ (i := 4) (N := some 81) (v := ?_) (a' := ?_) #[true, true, true, true, true, true, false, false, false, false] rfl rfl (by kernel_rfl) (fun _ _ _ h => h) (Or.inl ⟨by rfl, ?_⟩) hHeld ?_ ?_
                  rotate_left
                  · rintro w' ⟨s0, s1, s2⟩
                    go_simp
                    with_reducible rfl
                  rotate_left
                  · simp only [Act.put, List.setIfInBounds_toArray, List.set_cons_zero, List.set_cons_succ, i64_w, i32_w]
                    rfl
                  refine take_ (i := 6) (N := some 83) (v := ?_) (a' := ?_) #[true, true, true, true, true, true, true, false, false, false] rfl rfl (by kernel_rfl) (fun _ _ _ h => h) (Or.inl ⟨by rfl, ?_⟩) hHeld ?_ ?_
                  rotate_left
                  · rintro w' ⟨s0, s1, s2⟩
                    go_simp
                    with_reducible rfl
                  rotate_left
                  · simp only [Act.put, List.setIfInBounds_toArray, List.set_cons_zero, List.set_cons_succ, i64_w, i32_w]
                    rfl
                  refine pure_ (i := 7) (N := some 84) (v := ?_) (a' := ?_) #[true, true, true, true, true, true, true, true, false, false] rfl rfl (by kernel_rfl) (fun _ _ _ h => h) (Or.inl ⟨by rfl, ?_⟩) ?_ ?_
                  rotate_left
                  · intro w'
                    go_simp
                    with_reducible rfl
                  rotate_left
                  · simp only [Act.put, List.setIfInBounds_toArray, List.set_cons_zero, List.set_cons_succ, i64_w, i32_w]
                    rfl
                  refine pure_ (i := 8) (N := some 85) (v := ?_) (a' := ?_) #[true, true, true, true, true, true, true, true, true, false] rfl rfl (by kernel_rfl) (fun _ _ _ h => h) (Or.inl ⟨by rfl, ?_⟩) ?_ ?_
                  rotate_left
                  · intro w'
                    go_simp
                    with_reducible rfl
                  rotate_left
                  · simp only [Act.put, List.setIfInBounds_toArray, List.set_cons_zero, List.set_cons_succ, i64_w, i32_w]
                    rfl
                  refine last_ (i := 9) (N := none) #[true, true, true, true, true, true, true, true, true, true] rfl rfl (by kernel_rfl) (by decide) (fun K hK => ?_)
                  have hcT := hcS
                  refine skip_ (w1 := ?_) (by rfl) rfl ?_ ?_
                  rotate_left
                  · go_simp
                    rfl
                  refine hK.out _ _ ?_
                  clear hK K
                  refine done_ (by kernel_rfl) ?_
                  clear hcS hfS d0 d1 d2 HK1
                  have hw1 := wrap_n hx0 hj (Int.ofNat_le.mpr HS.out.2.2.2)
                  go_wp2
                  clear hw2
                  go_roundw
                  case rel => exact ⟨x + 1, j + 1, by omega, Int.add_one_le_of_lt hlt, by go_num, ⟨by rw [HX.out]; rfl⟩, HB9, HH9⟩
                  case measure => simp [intOf]; omega
                · have hd : decide (x < (n3 : Int)) = false := decide_eq_false hlt
                  have HH0 := Aside0.mk (row_end (by rw [HE.out.2.1]; exact nat_ge HX.out hlt) HH.out)
                  clear HH
                  go_wp2_with fail
                  go_loopw [89] (fun v wz => ∃ (x : Int) (k : Nat), 0 ≤ x ∧ x ≤ (np : Int) ∧ v = .int .i64 x ∧ Aside0 (x = (k : Int)) ∧ Aside0 (BB w wz #[.slice Ap np cp, .slice Ax nx cx, .int .i64 l0, .slice A2 n2 c2, .int .i64 l1, .slice A3 n3 c3]) ∧ Aside0 (Row wz h (hadL np (fun _ => 0)))) (fun v _ => (np - intOf v).toNat)
                  case atStart => exact ⟨0, 0, Int.le_refl _, Int.natCast_nonneg _, rfl, ⟨rfl⟩, HB, HH0⟩
                  case round =>
                    clear HB HH0
                    clear HX hx0 hj hlt
                    obtain ⟨x, k2, hx0, hk2, rfl, HX, HB, HH⟩ := hrel
                    by_cases hlt2 : x < (np : Int)
                    · have hd2 : decide (x < (np : Int)) = true := decide_eq_true hlt2
                      have hcell : wr.cell? ⟨h, x.toNat, none⟩ = some (.int .i64 0) := by rw [HX.out]; exact HH.out.cell (i := k2) (v := 0) (by rw [hadL_get _ _ _ (nat_lt HX.out hlt2)])
                      have hw1 := wrap_n hx0 hk2 (Int.ofNat_le.mpr HS.out.1)
                      go_wp2
                      go_roundw
                      case rel => exact ⟨x + 1, k2 + 1, by omega, Int.add_one_le_of_lt hlt2, by go_num, ⟨by rw [HX.out]; rfl⟩, HB, HH⟩
                      case measure => simp [intOf]; omega
                    · have hd2 : decide (x < (np : Int)) = false := decide_eq_false hlt2
                      clear HH
                      go_wp2
                      go_roundw
                      case rel => exact ⟨2, by omega, by go_num, HB⟩
                      case measure => simp [intOf]
        | 2, _ =>
          go_wp2
          go_ret
          exact ⟨rfl, HB.out.bel⟩
theorem CoreFair_walk (W : World) (cs : Array Value) (x : List S69 × List S87 × (Int × List S46) × (Int × List S46)) (hK : kCfg.K W x (Value.agg cs).cells.toList) (hV : VC x) (n : Int) (hn : (Lit.int .u8 n).wf = true) :
    Calls Try.prog 13 #[.agg cs, .int .u8 n] W fun e w' => e = .returned (.bool true) ∧ Below W.heap.size W w' := CoreFair_go (isCfg_of hK) n (bounds_u8 hn)
end Go.Proofs.Ytndmdlnmjamgkaa.Core
