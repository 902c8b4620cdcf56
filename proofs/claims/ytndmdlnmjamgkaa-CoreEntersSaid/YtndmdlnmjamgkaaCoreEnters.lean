import Derived.Test.YtndmdlnmjamgkaaCoreEntLaw
/- Package portholelaw15: clock, and what each of CoreFair, CoreEnters does first. Written by wip/corefair.py. -/
namespace Go.Proofs.Ytndmdlnmjamgkaa.Core
open Go.RowKit Go.Proofs.YtndmdlnmjamgkaaW.PrintWords Go.Proofs.YtndmdlnmjamgkaaW.PrintLast Go.Proofs.YtndmdlnmjamgkaaW.PrintMore Go.Proofs.Ytndmdlnmjamgkaa.PF Go.Proofs.Ytndmdlnmjamgkaa.Frame Go.Proofs.Ytndmdlnmjamgkaa.Box
set_option linter.unusedSimpArgs false
set_option linter.unusedVariables false
theorem u8_n {m n : Int} (h0 : 0 ≤ m) (h : m < n) (hn : n ≤ 255) : (m + 1) % 256 = m + 1 := by omega
theorem m_ok {m n : Int} (h0 : 0 ≤ m) (h : m ≤ n) (hn : n ≤ 255) : 0 ≤ m ∧ m ≤ 1000000 := by omega
theorem getD_mem {E : List Int} {k : Nat} (h : k < E.length) : E.getD k 0 ∈ E := by
  rw [List.getD_eq_getElem?_getD, List.getElem?_eq_getElem h]
  exact List.getElem_mem h
theorem boolL_at {np : Nat} {F : Int → Bool} {z : Int} {b : Bool} (h0 : 0 ≤ z) (h1 : z < (np : Int)) (hb : F z = b) : (boolL np F)[z.toNat]? = some b := by
  rw [boolL_get _ _ _ (by omega), show ((z.toNat : Nat) : Int) = z from by omega, hb]
theorem meas {z L : Int} (h0 : 0 ≤ z) (h : z < L) : (L - intOf (.int .i64 (z + 1))).toNat < (L - intOf (.int .i64 z)).toNat := by simp only [intOf]; omega
set_option maxRecDepth 20000 in
set_option maxHeartbeats 16000000 in
theorem CoreEnters_go {w : World} {f : Fr} {ps : List S69} {xs : List S87} {cs : Array Value} (h : IsCfg w f ps xs cs) (n : Int) (hn : 0 ≤ n ∧ n ≤ 255) :
    Calls Try.prog 12 #[.agg cs, .int .u8 n] w fun e w' => e = .returned (.bool true) ∧ Below w.heap.size w w' := by
  have HI := Aside0.mk h.fr
  obtain ⟨Ap, cp, Ax, cx, A2, c2, A3, c3, rfl, ⟨hl2, hl3⟩, hp, hx, h2, h3⟩ := h
  have HCK := Aside0.mk (fun (X : World) (hX : Below w.heap.size w X) (q2 : f.ws0.length ≤ 1000000) (q3 : f.ws1.length ≤ 1000000) => new_calls X Ap ps.length cp Ax xs.length cx f A2 c2 A3 c3 hl2 hl3 (Kd.C_below h2 hX) (Kd.C_below h3 hX) q2 q3)
  have HA := Aside0.mk (fun (X : World) (hX : Below w.heap.size w X) (q0 : ps.length ≤ 1000000) (q1 : xs.length ≤ 1000000) (q2 : f.ws0.length ≤ 1000000) (q3 : f.ws1.length ≤ 1000000) => accepts_calls X Ap ps.length cp Ax xs.length cx f.l0 A2 f.ws0.length c2 f.l1 A3 f.ws1.length c3 ps xs f.ws0 f.ws1 ⟨Kd.C_below hp hX, Kd.C_below hx hX, Kd.C_below h2 hX, Kd.C_below h3 hX, q0, q1, q2, q3⟩)
  have HGR := Aside0.mk (fun (X : World) => great_calls X Ap ps.length cp Ax xs.length cx f.l0 A2 f.ws0.length c2 f.l1 A3 f.ws1.length c3)
  have HW2 := Aside0.mk (fun (X : World) (hX : Below w.heap.size w X) => Kd.C_below h2 hX)
  have HW3 := Aside0.mk (fun (X : World) (hX : Below w.heap.size w X) => Kd.C_below h3 hX)
  have HPS := Aside0.mk (fun (X : World) (hX : Below w.heap.size w X) => Kd.C_below hp hX)
  have HB0 : Aside0 (BB w (w.alloc (.cells #[.slice Ap ps.length cp, .slice Ax xs.length cx, .int .i64 f.l0, .slice A2 f.ws0.length c2, .int .i64 f.l1, .slice A3 f.ws1.length c3] 61)) #[.slice Ap ps.length cp, .slice Ax xs.length cx, .int .i64 f.l0, .slice A2 f.ws0.length c2, .int .i64 f.l1, .slice A3 f.ws1.length c3]) := ⟨⟨blk_new w _, below_alloc (Below.refl _ w) _⟩⟩
  clear hl2 hl3 h2 h3 hp hx HI
  obtain ⟨np, hnp⟩ : ∃ n, ps.length = n := ⟨_, rfl⟩
  obtain ⟨nx, hnx⟩ : ∃ n, xs.length = n := ⟨_, rfl⟩
  obtain ⟨n2, hn2⟩ : ∃ n, f.ws0.length = n := ⟨_, rfl⟩
  obtain ⟨n3, hn3⟩ : ∃ n, f.ws1.length = n := ⟨_, rfl⟩
  obtain ⟨l0, hl0⟩ : ∃ n, f.l0 = n := ⟨_, rfl⟩
  obtain ⟨l1, hl1⟩ : ∃ n, f.l1 = n := ⟨_, rfl⟩
  rw [hnp, hnx, hn2, hn3, hl0, hl1] at HCK HA HGR HB0 ⊢
  rw [hnp] at HPS
  rw [hn2] at HW2
  rw [hn3] at HW3
  have HE := Aside0.mk (And.intro hn2 (And.intro hn3 (And.intro hl0 hl1)))
  clear hnp hnx hn2 hn3 hl0 hl1
  have hgr : (decide (100 < np) || (decide (100 < nx) || (decide (100 < n2) || decide (100 < n3)))) = false → np ≤ 1000000 ∧ nx ≤ 1000000 ∧ n2 ≤ 1000000 ∧ n3 ≤ 1000000 := fun h => by
    simp only [Bool.or_eq_false_iff, decide_eq_false_iff_not] at h
    omega
  have HGN := Aside0.mk hgr
  clear hgr
  generalize (decide (100 < np) || (decide (100 < nx) || (decide (100 < n2) || decide (100 < n3)))) = gb at *
  have HN := Aside0.mk hn
  obtain ⟨hn0, hn1⟩ := hn
  have hcv : IntKind.i64.wrap n = n := by rw [i64_w]; unfold wrap64; omega
  have HCV := Aside0.mk hcv
  clear hcv hn0 hn1
  go_enter Try.func12, Try.ntmps12
  go_wp2_with fail
  refine (wakes_calls _).mono ?_
  rintro e w2 ⟨rfl, hb⟩
  have HB2 := Aside0.mk (HB0.out.to hb)
  clear hb HB0
  have ha0 := (blk_cell HB2.out.blk 0).trans rfl
  have ha1 := (blk_cell HB2.out.blk 1).trans rfl
  have ha2 := (blk_cell HB2.out.blk 2).trans rfl
  have ha3 := (blk_cell HB2.out.blk 3).trans rfl
  have ha4 := (blk_cell HB2.out.blk 4).trans rfl
  have ha5 := (blk_cell HB2.out.blk 5).trans rfl
  go_wp2_with fail
  refine (HGR.out _).mono ?_
  rintro e w3 ⟨rfl, hb⟩
  have HB3 := Aside0.mk (HB2.out.to hb)
  clear hb HB2 HGR ha0 ha1 ha2 ha3 ha4 ha5
  have ha0 := (blk_cell HB3.out.blk 0).trans rfl
  have ha1 := (blk_cell HB3.out.blk 1).trans rfl
  have ha2 := (blk_cell HB3.out.blk 2).trans rfl
  have ha3 := (blk_cell HB3.out.blk 3).trans rfl
  have ha4 := (blk_cell HB3.out.blk 4).trans rfl
  have ha5 := (blk_cell HB3.out.blk 5).trans rfl
  cases gb with
  | true =>
    go_wp2
    go_ret
    exact ⟨rfl, HB3.out.bel⟩
  | false =>
    have HS := Aside0.mk (HGN.out rfl)
    clear HGN
    go_wp2_with fail
    refine (HA.out _ HB3.out.bel HS.out.1 HS.out.2.1 HS.out.2.2.1 HS.out.2.2.2).mono ?_
    rintro e w4 ⟨⟨b, rfl, hacc⟩, hb⟩
    have HB4 := Aside0.mk (HB3.out.to hb)
    have HAC := Aside0.mk hacc
    clear hb hacc HB3 HA ha0 ha1 ha2 ha3 ha4 ha5
    cases b with
    | false =>
      go_wp2
      go_ret
      exact ⟨rfl, HB4.out.bel⟩
    | true =>
      have HACC := Aside0.mk (HAC.out rfl)
      clear HAC
      have HRT : Aside0 (Rights f ps np) := ⟨by
        have a := HACC.out
        obtain ⟨e1, e2, e3, e4⟩ := HE.out
        rw [← e1, ← e2, ← e3, ← e4] at a
        exact rights_of a⟩
      have HNP : Aside0 (np ≤ 6) := ⟨HACC.out.parts.2⟩
      have HLL : Aside0 (f.l0 = l0 ∧ f.l1 = l1) := ⟨HE.out.2.2⟩
      clear HACC HE HW2 HW3
      obtain ⟨Z, hZ⟩ : ∃ Z, ((boolL np (fun _ => false)).map Value.bool).toArray = Z := ⟨_, rfl⟩
      have HZ := Aside0.mk hZ
      clear hZ
      have ha0 := (blk_cell HB4.out.blk 0).trans rfl
      have ha1 := (blk_cell HB4.out.blk 1).trans rfl
      have ha2 := (blk_cell HB4.out.blk 2).trans rfl
      have ha3 := (blk_cell HB4.out.blk 3).trans rfl
      have ha4 := (blk_cell HB4.out.blk 4).trans rfl
      have ha5 := (blk_cell HB4.out.blk 5).trans rfl
      go_wp2_with fail
      refine (HCK.out _ HB4.out.bel HS.out.2.2.1 HS.out.2.2.2).mono ?_
      rintro e w5 ⟨rfl, hck⟩
      have HB5 := Aside0.mk (HB4.out.to hck.bel)
      have HC5 := Aside0.mk hck
      have HBW := Aside0.mk HB4.out.bel
      have HSZ := Aside0.mk HB4.out.bel.size
      have HGW : Aside0 (w.heap.size ≠ w4.heap.size + 1) := ⟨by have := HSZ.out; omega⟩
      clear hck HB4 ha0 ha1 ha2 ha3 ha4 ha5 HCK
      generalize w4.heap.size + 1 = g at *
      have ha0 := (blk_cell HB5.out.blk 0).trans rfl
      have ha1 := (blk_cell HB5.out.blk 1).trans rfl
      have ha2 := (blk_cell HB5.out.blk 2).trans rfl
      have ha3 := (blk_cell HB5.out.blk 3).trans rfl
      have ha4 := (blk_cell HB5.out.blk 4).trans rfl
      have ha5 := (blk_cell HB5.out.blk 5).trans rfl
      go_wp2_with fail
      clear ha0 ha1 ha2 ha3 ha4 ha5
      go_loopw [28] (fun v wr => ∃ m : Int, 0 ≤ m ∧ m ≤ n ∧ v = .int .u8 m ∧ Aside0 (IsCk w4 wr g f m) ∧ Aside0 (BB w wr #[.slice Ap np cp, .slice Ax nx cx, .int .i64 l0, .slice A2 n2 c2, .int .i64 l1, .slice A3 n3 c3])) (fun v _ => (n - intOf v).toNat)
      case atStart => exact ⟨0, Int.le_refl _, HN.out.1, rfl, HC5, HB5⟩
      case round =>
        clear HC5 HB5
        obtain ⟨m, hm0, hm1, rfl, HC, HB⟩ := hrel
        by_cases hlt : m < n
        · have hd : decide (m < n) = true := decide_eq_true hlt
          have hw1 : (m + 1) % 256 = m + 1 := u8_n hm0 hlt HN.out.2
          go_wp2_with fail
          refine (tick_calls HC.out (m_ok hm0 hm1 HN.out.2)).mono ?_
          rintro e wt ⟨Ao, no, co, rfl, ho, hck, hkb, hbw⟩
          have HCt := Aside0.mk hck
          have HBt := Aside0.mk (HB.out.keep hkb (HBW.out.trans (hbw.mono HSZ.out)) HGW.out)
          clear ho hck hkb hbw HC HB
          go_wp2
          go_roundw
          case rel => exact ⟨m + 1, Int.le_trans hm0 (Int.le_of_lt (Int.lt_succ m)), Int.add_one_le_of_lt hlt, by go_num, HCt, HBt⟩
          case measure => exact meas hm0 hlt
        · have e : m = n := Int.le_antisymm hm1 (Int.not_lt.mp hlt)
          subst e
          clear hlt hm1
          have hd : decide (m < m) = false := decide_eq_false (Int.lt_irrefl m)
          have ha0 := (blk_cell HB.out.blk 0).trans rfl
          have ha1 := (blk_cell HB.out.blk 1).trans rfl
          have ha2 := (blk_cell HB.out.blk 2).trans rfl
          have ha3 := (blk_cell HB.out.blk 3).trans rfl
          have ha4 := (blk_cell HB.out.blk 4).trans rfl
          have ha5 := (blk_cell HB.out.blk 5).trans rfl
          have HMK : ∀ W : World, (Instr.makeSlice 66 (.int .i64 (np : Int)) (.int .i64 (np : Int))).run Try.prog W = .ok (.slice (some ⟨W.heap.size, 0, none⟩) np np) (W.alloc (.cells Z 4)) := by
            rw [← HZ.out]; exact make_bools np HNP.out
          have hb6 := below_alloc (Below.refl _ wr) (.cells Z 4)
          have HC6 := Aside0.mk (HC.out.other (.cells Z 4))
          have HB6 := Aside0.mk (HB.out.to hb6)
          have HR6 : Aside0 (RowB (wr.alloc (.cells Z 4)) wr.heap.size (boolL np (seenF f m 0))) := ⟨⟨by show (wr.alloc (.cells Z 4)).heap[wr.heap.size]? = some (.cells ((boolL np (fun _ => false)).map Value.bool).toArray 4 (0, 0)); rw [HZ.out]; exact blk_new wr _⟩⟩
          have HGH : Aside0 (g ≠ wr.heap.size) := ⟨Nat.ne_of_lt HC.out.lt⟩
          have HWH2 : Aside0 (w.heap.size < wr.heap.size) := ⟨blk_lt HB.out.blk⟩
          have HWR : Aside0 (w4.heap.size ≤ wr.heap.size) := ⟨HC.out.bel.size⟩
          clear hb6 HC HB
          have hb0 := (blk_cell HB6.out.blk 0).trans rfl
          have hb1 := (blk_cell HB6.out.blk 1).trans rfl
          have hb2 := (blk_cell HB6.out.blk 2).trans rfl
          have hb3 := (blk_cell HB6.out.blk 3).trans rfl
          have hb4 := (blk_cell HB6.out.blk 4).trans rfl
          have hb5 := (blk_cell HB6.out.blk 5).trans rfl
          go_wp2_with fail
          clear HMK ha0 ha1 ha2 ha3 ha4 ha5 hb0 hb1 hb2 hb3 hb4 hb5
          generalize wr.heap.size = h at *
          go_loopw [37] (fun v wx => ∃ (x : Int) (i : Nat), 0 ≤ x ∧ x ≤ 64 ∧ v = .int .i64 x ∧ Aside0 (x = (i : Int)) ∧ Aside0 (IsCk w4 wx g f (m + x) h) ∧ Aside0 (BB w wx #[.slice Ap np cp, .slice Ax nx cx, .int .i64 l0, .slice A2 n2 c2, .int .i64 l1, .slice A3 n3 c3]) ∧ Aside0 (RowB wx h (boolL np (seenF f m i)))) (fun v _ => (64 - intOf v).toNat)
          case atStart => exact ⟨0, 0, Int.le_refl _, by decide, rfl, ⟨rfl⟩, ⟨by rw [Int.add_zero]; exact HC6.out⟩, HB6, HR6⟩
          case round =>
            clear HC6 HB6 HR6
            obtain ⟨x, i, hx0, hx1, rfl, HX, HC, HB, HH⟩ := hrel
            by_cases hlt : x < 64
            · have hd : decide (x < 64) = true := decide_eq_true hlt
              go_wp2_with fail
              refine (tick_calls HC.out (now_ok HN.out hx0 hx1 ⟨by decide, by decide⟩)).mono ?_
              rintro e wt ⟨Ao, no, co, rfl, ho, hck, hkb, hbw⟩
              have HBt := Aside0.mk (HB.out.keep hkb (HBW.out.trans (hbw.mono HSZ.out)) HGW.out)
              have HHt := Aside0.mk (HH.out.keep hkb (Ne.symm HGH.out))
              have HCt := Aside0.mk hck
              have HLT : Aside0 (h < wr.heap.size) := ⟨HH.out.lt⟩
              have HO := Aside0.mk ho
              have HLE : Aside0 ((entV f (m + x + 1)).length ≤ 2) := ⟨entV_le f (m + x + 1)⟩
              clear ho hck hkb hbw HC HB HH
              generalize wr.heap.size = sT at *
              obtain ⟨E, hE⟩ : ∃ E, entV f (m + x + 1) = E := ⟨_, rfl⟩
              rw [hE] at HO HLE
              have HEE : Aside0 (entV f (m + x + 1) = E) := ⟨hE⟩
              have HEI : Aside0 (entV f (m + (i : Int) + 1) = E) := ⟨by rw [← HX.out]; exact hE⟩
              clear hE
              have HNO : Aside0 (no = E.length) := ⟨(Kd.R_reads' HO.out).1⟩
              have HN2 : Aside0 ((no : Int) ≤ 1000000) := ⟨by have := HNO.out; have := HLE.out; omega⟩
              go_wp2_with fail
              go_loopw [43] (fun v wy => ∃ (y : Int) (k : Nat), 0 ≤ y ∧ y ≤ (no : Int) ∧ v = .int .i64 y ∧ Aside0 (y = (k : Int)) ∧ Aside0 (IsCk w4 wy g f (m + x + 1) h) ∧ Aside0 (BB w wy #[.slice Ap np cp, .slice Ax nx cx, .int .i64 l0, .slice A2 n2 c2, .int .i64 l1, .slice A3 n3 c3]) ∧ Aside0 (RowB wy h (boolL np (seenK f m i k))) ∧ Aside0 (Kd.R (Kd.int .i64) 3 wy sT (fun j => sT ≤ j) (.slice Ao no co) E)) (fun v _ => (no - intOf v).toNat)
              case atStart => exact ⟨0, 0, Int.le_refl _, Int.natCast_nonneg _, rfl, ⟨rfl⟩, HCt, HBt, ⟨rowB_start HHt.out⟩, HO⟩
              case round =>
                clear HCt HBt HHt HO
                obtain ⟨y, k, hy0, hy1, rfl, HY, HC, HB, HH, HO⟩ := hrel
                by_cases hlt2 : y < (no : Int)
                · have hd2 : decide (y < (no : Int)) = true := decide_eq_true hlt2
                  obtain ⟨ad, rfl, hc0⟩ := at_I (Kd.R_reads' HO.out).2.2 y hy0 (by rw [← HNO.out]; exact hlt2)
                  obtain ⟨q, hq⟩ : ∃ q, E.getD y.toNat 0 = q := ⟨_, rfl⟩
                  rw [hq] at hc0
                  have hkl : k < E.length := by rw [← HNO.out]; exact nat_lt HY.out hlt2
                  have hyk : y.toNat = k := by rw [HY.out]; rfl
                  rw [hyk] at hq
                  have hw := ent_who HRT.out (t := m + x + 1) (p := q) (by rw [HEE.out, ← hq]; exact getD_mem hkl)
                  obtain ⟨⟨hq0, hq1⟩, hcc, hwho⟩ := hw
                  obtain ⟨qn, rfl⟩ := nat_of hq0
                  have hqn : qn < np := Int.ofNat_lt.mp hq1
                  have hq2 : decide ((qn : Int) < 0) = false := decide_eq_false (Int.not_lt.mpr hq0)
                  have hq3 : decide ((np : Int) ≤ (qn : Int)) = false := decide_eq_false (Int.not_le.mpr hq1)
                  have hq4 : decide ((qn : Int) < (np : Int)) = true := decide_eq_true hq1
                  have HC9 := Aside0.mk (HC.out.far HWR.out HGH.out qn (.bool true))
                  have HB9 := Aside0.mk (HB.out.far HWH2.out qn (.bool true))
                  have HH9 := Aside0.mk (rowB_put (q := qn) (by rw [HEI.out]; exact hkl) (by rw [HEI.out]; exact hq) HH.out)
                  have HO9 : Aside0 (Kd.R (Kd.int .i64) 3 (wr.setCell ⟨h, qn, none⟩ (.bool true)) sT (fun j => sT ≤ j) (.slice (some ad) no co) E) := ⟨Kd.R_far HO.out (fun j hj => Nat.ne_of_gt (Nat.lt_of_lt_of_le HLT.out hj)) _⟩
                  have hcell := HH.out.cell (i := qn) (v := seenK f m i k qn) (by rw [boolL_get _ _ _ hqn])
                  have hfz := HH.out.frz qn
                  obtain ⟨a0, ha0⟩ : ∃ a, (rd_T69 ps qn).f0 = a := ⟨_, rfl⟩
                  have hpp := at_T69 (HPS.out _ HB9.out.bel) qn hq0 hq1
                  rw [ha0] at hwho hpp
                  rw [Int.toNat_natCast] at hpp
                  obtain ⟨ap, rfl, d0, _⟩ := hpp
                  have HWHO := Aside0.mk (whoc_calls HC9.out a0 hwho)
                  generalize seenK f m i k qn = sv at hcell
                  clear ha0 hcc hwho hq hyk hkl HC HB9 HH hqn
                  have HB9 : Aside0 (BB w (wr.setCell ⟨h, qn, none⟩ (.bool true)) #[.slice (some ap) np cp, .slice Ax nx cx, .int .i64 l0, .slice A2 n2 c2, .int .i64 l1, .slice A3 n3 c3]) := Aside0.mk (HB.out.far HWH2.out qn (.bool true))
                  have ha0 := (blk_cell HB.out.blk 0).trans rfl
                  have ha1 := (blk_cell HB.out.blk 1).trans rfl
                  have ha2 := (blk_cell HB.out.blk 2).trans rfl
                  have ha3 := (blk_cell HB.out.blk 3).trans rfl
                  have ha4 := (blk_cell HB.out.blk 4).trans rfl
                  have ha5 := (blk_cell HB.out.blk 5).trans rfl
                  have hb0 := (blk_cell HB9.out.blk 0).trans rfl
                  have hb1 := (blk_cell HB9.out.blk 1).trans rfl
                  have hb2 := (blk_cell HB9.out.blk 2).trans rfl
                  have hb3 := (blk_cell HB9.out.blk 3).trans rfl
                  have hb4 := (blk_cell HB9.out.blk 4).trans rfl
                  have hb5 := (blk_cell HB9.out.blk 5).trans rfl
                  clear HB
                  go_wp2_with fail
                  refine HWHO.out.mono ?_
                  rintro e w8 ⟨rfl, hck, hb⟩
                  have HC8 := Aside0.mk hck
                  have HB8 := Aside0.mk (HB9.out.to hb)
                  have HH8 := Aside0.mk (HH9.out.to hb)
                  have HO8 := Aside0.mk (Kd.R_below HO9.out hb)
                  have e1 : ((qn : Int) != (qn : Int)) = false := by simp
                  have hw1 := wrap_n hy0 hy1 HN2.out
                  clear hck hb HC9 HB9 HH9 HO9 HWHO ha0 ha1 ha2 ha3 ha4 ha5 hb0 hb1 hb2 hb3 hb4 hb5 d0 hc0 hcell hfz
                  go_wp2
                  go_roundw
                  case rel => exact ⟨y + 1, k + 1, Int.le_trans hy0 (Int.le_of_lt (Int.lt_succ y)), Int.add_one_le_of_lt hlt2, by go_num, ⟨by rw [HY.out]; rfl⟩, HC8, HB8, HH8, HO8⟩
                  case measure => first | exact meas hy0 hlt2 | (rw [hw1]; exact meas hy0 hlt2)
                · have hd2 : decide (y < (no : Int)) = false := decide_eq_false hlt2
                  have HH1 := Aside0.mk (rowB_end (by rw [HEI.out, ← HNO.out]; exact nat_ge HY.out hlt2) HH.out)
                  clear HH HO HNO HEE HEI HLE HN2
                  have ha0 := (blk_cell HB.out.blk 0).trans rfl
                  have ha1 := (blk_cell HB.out.blk 1).trans rfl
                  have ha2 := (blk_cell HB.out.blk 2).trans rfl
                  have ha3 := (blk_cell HB.out.blk 3).trans rfl
                  have ha4 := (blk_cell HB.out.blk 4).trans rfl
                  have ha5 := (blk_cell HB.out.blk 5).trans rfl
                  go_wp2_with fail
                  clear ha0 ha1 ha2 ha3 ha4 ha5
                  go_loopw [81] (fun v wz => ∃ z : Int, 0 ≤ z ∧ z ≤ (np : Int) ∧ v = .int .i64 z ∧ Aside0 (IsCk w4 wz g f (m + x + 1) h) ∧ Aside0 (BB w wz #[.slice Ap np cp, .slice Ax nx cx, .int .i64 l0, .slice A2 n2 c2, .int .i64 l1, .slice A3 n3 c3]) ∧ Aside0 (RowB wz h (boolL np (seenF f m (i + 1))))) (fun v _ => (np - intOf v).toNat)
                  case atStart => exact ⟨0, Int.le_refl _, Int.natCast_nonneg _, rfl, HC, HB, HH1⟩
                  case round =>
                    clear HC HB HH1 HY hy0 hy1 hlt2 hd2
                    obtain ⟨z, hz0, hz1, rfl, HC, HB, HH⟩ := hrel
                    by_cases hlt3 : z < (np : Int)
                    · have hd3 : decide (z < (np : Int)) = true := decide_eq_true hlt3
                      obtain ⟨ap, rfl, d0, d1⟩ := at_T69 (HPS.out _ HB.out.bel) z hz0 hlt3
                      have hun : seenF f m (i + 1) z = false → ((rd_T69 ps z).f0 = 0 ∧ x + 1 < l0) ∨ ((rd_T69 ps z).f0 = 1 ∧ x + 1 < l1) := fun h => by
                        have := unseen HRT.out HN.out ⟨hz0, hlt3⟩ h
                        rw [HLL.out.1, HLL.out.2] at this
                        rw [HX.out]
                        exact this
                      obtain ⟨a0, ha0⟩ : ∃ a, (rd_T69 ps z).f0 = a := ⟨_, rfl⟩
                      obtain ⟨a1, ha1⟩ : ∃ a, (rd_T69 ps z).f1 = a := ⟨_, rfl⟩
                      rw [ha0] at d0 hun
                      rw [ha1] at d1
                      obtain ⟨sv, hsv⟩ : ∃ b, seenF f m (i + 1) z = b := ⟨_, rfl⟩
                      rw [hsv] at hun
                      have hbk := below_alloc (Below.refl _ wr) (.cells #[.int .i64 a0, .int .i64 a1] 69)
                      have HC1 := Aside0.mk (HC.out.to hbk)
                      have HB1 := Aside0.mk (HB.out.to hbk)
                      have HH1 := Aside0.mk (HH.out.to hbk)
                      have HK1 : Aside0 ((wr.alloc (.cells #[.int .i64 a0, .int .i64 a1] 69)).heap[wr.heap.size]? = some (.cells #[.int .i64 a0, .int .i64 a1] 69 (0, 0))) := ⟨blk_new wr _⟩
                      have hcell : (wr.alloc (.cells #[.int .i64 a0, .int .i64 a1] 69)).cell? ⟨h, z.toNat, none⟩ = some (.bool sv) := HH1.out.cell (i := z.toNat) (v := sv) (boolL_at hz0 hlt3 hsv)
                      clear ha0 ha1 hsv hbk HC HH
                      have ha0 := (blk_cell HB.out.blk 0).trans rfl
                      have ha1 := (blk_cell HB.out.blk 1).trans rfl
                      have ha2 := (blk_cell HB.out.blk 2).trans rfl
                      have ha3 := (blk_cell HB.out.blk 3).trans rfl
                      have ha4 := (blk_cell HB.out.blk 4).trans rfl
                      have ha5 := (blk_cell HB.out.blk 5).trans rfl
                      have hb0 := (blk_cell HB1.out.blk 0).trans rfl
                      have hb1 := (blk_cell HB1.out.blk 1).trans rfl
                      have hb2 := (blk_cell HB1.out.blk 2).trans rfl
                      have hb3 := (blk_cell HB1.out.blk 3).trans rfl
                      have hb4 := (blk_cell HB1.out.blk 4).trans rfl
                      have hb5 := (blk_cell HB1.out.blk 5).trans rfl
                      have hk0 : (wr.alloc (.cells #[.int .i64 a0, .int .i64 a1] 69)).cell? ⟨wr.heap.size, 0, none⟩ = some (.int .i64 a0) := (blk_cell HK1.out 0).trans rfl
                      clear HB HK1
                      cases sv with
                      | true =>
                        have hw2 := wrap_n hz0 hz1 (Int.ofNat_le.mpr HS.out.1)
                        clear hun
                        go_wp2
                        go_roundw
                        case rel => exact ⟨z + 1, Int.le_trans hz0 (Int.le_of_lt (Int.lt_succ z)), Int.add_one_le_of_lt hlt3, by go_num, HC1, HB1, HH1⟩
                        case measure => first | exact meas hz0 hlt3 | (rw [hw2]; exact meas hz0 hlt3)
                      | false =>
                        rcases hun rfl with hu | hu
                        · clear hun
                          obtain ⟨rfl, hlt4⟩ := hu
                          have hge : decide (l0 ≤ x + 1) = false := decide_eq_false (Int.not_le.mpr hlt4)
                          have hw1 := wrap_n hx0 hx1 (by decide)
                          have hw2 := wrap_n hz0 hz1 (Int.ofNat_le.mpr HS.out.1)
                          clear hlt4
                          go_wp2
                          go_roundw
                          case rel => exact ⟨z + 1, Int.le_trans hz0 (Int.le_of_lt (Int.lt_succ z)), Int.add_one_le_of_lt hlt3, by go_num, HC1, HB1, HH1⟩
                          case measure => first | exact meas hz0 hlt3 | (rw [hw2]; exact meas hz0 hlt3)
                        · clear hun
                          obtain ⟨rfl, hlt4⟩ := hu
                          have hge : decide (l1 ≤ x + 1) = false := decide_eq_false (Int.not_le.mpr hlt4)
                          have hw1 := wrap_n hx0 hx1 (by decide)
                          have hw2 := wrap_n hz0 hz1 (Int.ofNat_le.mpr HS.out.1)
                          clear hlt4
                          go_wp2
                          go_roundw
                          case rel => exact ⟨z + 1, Int.le_trans hz0 (Int.le_of_lt (Int.lt_succ z)), Int.add_one_le_of_lt hlt3, by go_num, HC1, HB1, HH1⟩
                          case measure => first | exact meas hz0 hlt3 | (rw [hw2]; exact meas hz0 hlt3)
                    · have hd3 : decide (z < (np : Int)) = false := decide_eq_false hlt3
                      have hw1 := wrap_n hx0 hx1 (by decide)
                      clear hz0 hz1 hlt3
                      go_wp2
                      go_roundw
                      case rel => exact ⟨x + 1, i + 1, Int.le_trans hx0 (Int.le_of_lt (Int.lt_succ x)), Int.add_one_le_of_lt hlt, by go_num, ⟨by rw [HX.out]; rfl⟩, ⟨by rw [← Int.add_assoc]; exact HC.out⟩, HB, HH⟩
                      case measure => first | exact meas hx0 hlt | (rw [hw1]; exact meas hx0 hlt)
            · have hd : decide (x < 64) = false := decide_eq_false hlt
              go_wp2
              go_ret
              exact ⟨rfl, HB.out.bel⟩
theorem CoreEnters_walk (W : World) (cs : Array Value) (x : List S69 × List S87 × (Int × List S46) × (Int × List S46)) (hK : kCfg.K W x (Value.agg cs).cells.toList) (hV : VC x) (n : Int) (hn : (Lit.int .u8 n).wf = true) :
    Calls Try.prog 12 #[.agg cs, .int .u8 n] W fun e w' => e = .returned (.bool true) ∧ Below W.heap.size W w' := CoreEnters_go (isCfg_of hK) n (bounds_u8 hn)
end Go.Proofs.Ytndmdlnmjamgkaa.Core
